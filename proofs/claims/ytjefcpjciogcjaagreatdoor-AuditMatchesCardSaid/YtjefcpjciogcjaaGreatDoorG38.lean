/- Lemmas for the walk of the law, in 5 parts. No condition beyond what each states. -/
import Derived.Test.YtjefcpjciogcjaaGreatDoorG37
namespace Go.Proofs.YtjefcpjciogcjaaGreatDoor
set_option maxRecDepth 100000
set_option linter.unusedVariables false
namespace Cx
open Go
section
variable {P:Program} {G:Gl}
theorem ok_all {f:AF} {a:Act} {E:Em} (T:TR E f a) (L:GL E G) {o:Oper} (h:o.op.operands.all (okOp G)=true):∀z∈o.op.operands,VR E (ev f z) (a.eval z):=
 fun z b=>Vz T L (Array.all_eq_true_iff_forall_mem.1 h z b)
theorem wanted_tr {ops:Array Oper} {f:AF} {a:Act} {E:Em} {o:Oper} (T:TR E f a):Region.wanted o (yielded ops a.tmps)=Hn ops f o:=Xs fun _ _ t _ _=>T.get t
theorem Rb {c:Code} {Q Q':Exit->Act->List Frame->World->Prop} {a:Act} {cs:List Frame} {w:World} (h:c.wpS P Q a cs w) (g:∀e a cs w,Q e a cs w->Q' e a cs w):c.wpS P Q' a cs w:=
 fun b k d hr=>let ⟨e,a',cs',w',q,r⟩:=h b k d hr; ⟨e,a',cs',w',g _ _ _ _ q,r⟩
theorem heapless_val {f:AF} {E:Em} {o:Oper} {a:Act} {v:Value} (T:TR E f a) (L:GL E G) (b:o.op.operands.all (okOp G)=true) (h:heapless P f o=some v):
 ∃v',VR E v v'/\∀w,(execOp a.eval o).run P w=.ok (.value v') w:=Lg h (ok_all T L b)
theorem Xc {ops:Array Oper} {E:Em} (L:GL E G) {Q:Exit->Act->List Frame->World->Prop} {cs:List Frame} (g:recoverD cs=none) {w:World}:
   ∀ (l:List Oper) (i:Nat) (f f':AF) (a:Act),ops.toList.drop i=l->Nq P G ops l f=some f'->TR E f a->(∀a',TR E f' a'->a'.defers=a.defers->f'.defers=f.defers->Q .normal a' cs w)->
     wpOpsS P ops Q (List.range' i l.length) a cs w
 | [],i,f,f',a,_,h,T,hQ=>by
   cases h
   exact hQ a T rfl rfl
 | o::l,i,f,f',a,hd,h,T,hQ=>by
   have ho:ops[i]? =some o:=by
     have:=congrArg (·[0]?) hd;simpa using this
   have q:ops.toList.drop (i+1)=l:=by
     have:=congrArg List.tail hd;simpa using this
   have next:∀(c:AF) (v j:Value),f.putO o.dst v=some c->VR E v j->Nq P G ops l c=some f'->wpOpsS P ops Q (List.range' (i+1) l.length) (a.put o.dst j) cs w:=by
     intro c v j d e hr;refine Xc L g l (i+1) c f' _ q hr (T.put d e) fun a' x n p=>hQ a' x ?_ ?_
     · rw[n,Dt]
     · rw[p,(AF.putO_spec d).2.1]
   rw[List.length_cons,List.range'_succ];simp only[wpOpsS,ho,wanted_tr T];unfold Nq at h;split at h
   · rename_i t
     rw[t];simp only[Bool.false_eq_true,if_false];split at h
     ·rename_i c d
      exact next c _ _ d VR.undef h
     · cases h
   · rename_i t
     rw[t];simp only[if_true];split at h
     · cases h
     ·rename_i r
      split at h
      · cases h
      ·rename_i v e
       split at h
       ·rename_i c d
        unfold opD at e;split at e
        ·rename_i b
         cases e
         have z:(execOp a.eval o).run P w=.ok .recover w:=by
          obtain⟨y,op,u,pos,after,m⟩:=o;unfold Zu at b;simp only at b;split at b
          · rfl
          · cases b
         simp only[z,g];exact next c _ _ d .nilIface h
        ·obtain⟨j,n,p⟩:=heapless_val T L r e
         simp only[p w,Oper.upon];exact next c _ _ d n h
       · cases h
theorem Np {E:Em} (L:GL E G) {cs:List Frame} (b:recoverD cs=none) {w:World}:∀(n:Nat) (c:Code) (f f':AF) (x:AX) (a:Act),runD P G n c f=some (x,f')->TR E f a->
  c.wpS P (fun e a' cs' w'=>(x=.normal\/x=.ret)/\e=x.out/\cs'=cs/\w'=w/\TR E f' a'/\a'.defers=a.defers/\f'.defers=f.defers) a cs w
 | 0,c,f,f',x,a,h,T=>by cases h
 |n+1,c,f,f',x,a,h,T=>by
  unfold runD at h;split at h
  · cases h;exact wpS_of_wp (wp_skip ⟨.inl rfl,rfl,rfl,rfl,T,rfl,rfl⟩)
  · cases h;exact wpS_of_wp (wp_label ⟨.inl rfl,rfl,rfl,rfl,T,rfl,rfl⟩)
  · cases h;exact wpS_of_wp (wp_ret ⟨.inr rfl,rfl,rfl,rfl,T,rfl,rfl⟩)
  ·rename_i id ops
   split at h
   ·rename_i f1 hr
    cases h
    refine wpS_region ?_;have:=Xc (P:=P) (G:=G) (ops:=ops) L b (w:=w) (Q:=fun e a' cs' w'=>(AX.normal=.normal\/AX.normal=.ret)/\e=AX.normal.out/\cs'=cs/\w'=w/\TR E f' a'/\a'.defers=a.defers/\f'.defers=f.defers) ops.toList 0 f f' a rfl hr T fun a' T' h1 h2=>⟨.inl rfl,rfl,rfl,rfl,T',h1,h2⟩;simpa [List.range_eq_range'] using this
   · cases h
  ·rename_i c1 c2
   split at h
   ·rename_i f1 h1
    refine wpS_seq (Rb (Np L b n c1 f f1 .normal a h1 T) ?_);rintro e m g t ⟨_,rfl,rfl,rfl,o,d1,d2⟩;refine Rb (Np L b n c2 f1 f' x m h o) ?_;rintro e u q y ⟨l,h2,i,r,p,d3,d4⟩;exact⟨l,h2,i,r,p,d3.trans d1,d4.trans d2⟩
   ·rename_i f1 h1
    cases h
    refine wpS_seq (Rb (Np L b n c1 f f' .ret a h1 T) ?_);rintro e m g t ⟨l,rfl,i⟩;exact⟨l,rfl,i⟩
   · cases h
  ·rename_i c0 c1 c2
   split at h
   ·rename_i d j
    have:=Vz T L d;rw[j]at this;exact wpS_cond (Im this) (Np L b n c1 f f' x a h T)
   ·rename_i d j
    have:=Vz T L d;rw[j]at this;exact wpS_cond (Im this) (Np L b n c2 f f' x a h T)
   · cases h
  · cases h
theorem Og {fn:Func} {tmps:Array Value} {R:Ending->World->Prop} {E:Em} (L:GL E G) {w:World} (hr:∃v,(results fn tmps).run P w=.ok v w/\R (.returned v) w):
  ∀(t:List (FuncId×List Value)) (i:List Deferred),Rk P G t=true->DR E t i->Leaves P fn tmps R i .returning w
 | [],[],_,_=>hr
 |(g,args)::t,d::i,h,hd=>by
  obtain⟨⟨cap,dargs,rfl,hl⟩,hd⟩:=hd;unfold Rk at h;split at h
  ·rename_i j C
   split at h
   ·rename_i c K B p
    split at h
    ·rename_i x f o q
     split at h
     ·rename_i J
      refine leaves_cons (by simp) (f:=g) (args:=dargs++cap) (by
       have A:j.name≠ "runtime.NumGoroutine" :=by simpa using K
       simp[invoke,callFunc,C,B,A]) ?_
      refine CallsD.mono (callsD_of_wpS (R:=fun e r m=>∃v,e=.returned v/\r=.returning/\m=w) C B fun y u n=>?_) ?_
      ·have z:recoverD (y::u)=none:=by simp[recoverD,n]
       refine Rb (Np (P:=P) (G:=G) L z (w:=w) 100 c _ f x _ q (Vw hl (Cv o))) ?_;rintro e a D m ⟨M,rfl,rfl,rfl,T,I,N⟩;have l:j.results=#[]:=by apply Array.toList_inj.1;rw[p]
       have b:a.defers= []/\∃r,y::u= {y with mode:=r}::u/\∃v,(results j a.tmps).run P m=.ok v m/\(∃v',Ending.returned v=.returned v'/\r=.returning/\m=m):=by
        refine⟨I,.returning,?_,.tuple #[],?_,_,rfl,rfl,rfl⟩
        · rw[<- n]
        · simp[results,l]
       rcases M with rfl | rfl
       · exact b
       · exact b
      ·rintro e r m ⟨v,rfl,rfl,rfl⟩
       exact Og L hr t i h hd
     · cases h
    · cases h
   · cases h
  · cases h
 | [],_::_,_,hd=>hd.elim
 | _::_,[],_,hd=>hd.elim
def Post (E:Em) (s:HS) (w:World) (x:AX) (f':AF) (s':HS) (l:List Nat):Exit->Act->World->Prop:=
 fun e a' w'=>e=x.out/\∃E',Tx E s.at w s.next E' s'.at w' s'.next l/\TR E' f' a'/\DR E' f'.defers a'.defers
structure Good (P:Program) (G:Gl) (rec:Rec):Prop where
 known:∀x∈G.known,KOk P G.vars x/\x.n0<=x.n1
 keep:∀ {c f s x f' s'},rec c f s=some (x,f',s')->∃l,Keeps s s' l
 wp:∀ {c f s x f' s'},rec c f s=some (x,f',s')->∀ {l},s'.log=l++s.log->∀ {E w a},HR E s.at w->TR E f a->GL E G->DR E f.defers a.defers->Fresh E s.next s'.next->c.wp P (Post E s w x f' s' l) a w
theorem Vl {a:Rec} {g:Nat} {args:List Value} {s i:HS} {v:Value} (h:callN P G a g args s=some (v,i)):
  ∃fn c x f',P.funcs[g]? =some fn/\fn.body=some c/\args.length<=lim/\a c (Ml fn args) s=some (x,f',i)/\(x=.normal\/x=.ret)/\Rk P G f'.defers=true/\Mx P f' i fn.results.toList=some v:=by
 unfold callN at h;simp only[enterK_eq]at h;split at h
 ·rename_i fn l
  split at h
  ·rename_i c j
   split at h
   ·rename_i f' m e hr
    split at h
    ·rename_i n b d
     cases h
     exact⟨fn,c,_,f',l,j,Cv e,hr,.inl rfl,b,d⟩
    · cases h
   ·rename_i f' m e hr
    split at h
    ·rename_i n b d
     cases h
     exact⟨fn,c,_,f',l,j,Cv e,hr,.inr rfl,b,d⟩
    · cases h
   · cases h
  · cases h
 · cases h
theorem Sk {a:Rec} (R:Good P G a) {g:Nat} {args:List Value} {s b:HS} {v:Value} (h:Sj P G a g args s=some (v,b)):∃l,Keeps s b l:=by
 unfold Sj at h;split at h
 ·rename_i r hr
  cases h
  exact⟨[],applyK_keeps (fun x d=>(R.known x d).2) hr⟩
 ·obtain⟨fn,c,x,e,_,_,_,hr,_⟩:=Vl h
  exact R.keep hr
theorem Mg {m:Rec} (R:Good P G m) {g:Nat} {args:List Value} {s n:HS} {v:Value} (h:Sj P G m g args s=some (v,n)) {l:List Nat} (t:n.log=l++s.log) {E:Em} {w:World} {b:Array Value}
  (H:HR E s.at w) (q:LR E args b.toList) (L:GL E G) (F:Fresh E s.next n.next):Calls P g b w (Back E s w v n l):=by
 unfold Sj at h;split at h
 ·rename_i r hr
  cases h
  exact applyK_calls (fun x p=>(R.known x p).1) hr t H q L F
 ·obtain⟨fn,c,x,z,J,I,d,hr,p,o,i⟩:=Vl h
  refine calls_of_wp_defers J I (wp_mono (R.wp hr t H (Vw q d) L (by simp[Ml,DR]) F) ?_);rintro e a K ⟨rfl,y,T,D,C⟩;obtain⟨u,A,B⟩:=resultsA_run (P:=P) D T.hr i;have j:Leaves P fn a.tmps (Back E s w v n l) a.defers .returning K:=Og (L.ext T.ext) ⟨u,B,u,y,rfl,A,T⟩ z.defers a.defers o C;rcases p with rfl | rfl
  · exact j
  · exact j
theorem cancel {a b c:List Nat} (h:a++c=b++c):a=b:=List.append_cancel_right h
theorem stepOp_ok {a:Rec} {f:AF} {s:HS} {o:Oper} {r:Value×HS} (h:Lr P G a f s o=some r):o.op.operands.all (okOp G)=true:=by
 cases hb:o.op.operands.all (okOp G) with
 | true=>rfl
 |false=>
  unfold Lr Tn at h;rw[allOk_eq,hb]at h;cases h
theorem Ii {a:Rec} (R:Good P G a) {f:AF} {s b:HS} {o:Oper} {v:Value} (h:Lr P G a f s o=some (v,b)):∃l,Keeps s b l:=by
 unfold Lr at h;split at h
 ·rename_i hr
  cases h
  exact (runOp_moves hr).keeps
 · exact Sk R h
 · cases h
theorem stepOp_wp {b:Rec} (R:Good P G b) {f:AF} {s c:HS} {o:Oper} {v:Value} (h:Lr P G b f s o=some (v,c)) {l:List Nat} (r:c.log=l++s.log) {E:Em} {w:World} {a:Act}
  (H:HR E s.at w) (t:∀z∈o.op.operands,VR E (ev f z) (a.eval z)) (L:GL E G) (F:Fresh E s.next c.next) {K:Act->World->Prop} {Q:Exit->Act->World->Prop}
  (m:∀E' w' v',Tx E s.at w s.next E' c.at w' c.next l->VR E' v v'->K (a.put o.dst v') w'):o.wp P a w K Q:=by
 unfold Lr at h;split at h
 ·rename_i B A hr
  cases h
  obtain⟨x,n,E',v',w',y,i,j,p,q⟩:=runOp_does (P:=P) (w:=w) hr H t F.one;have:x=l:=List.append_cancel_right (n.symm.trans r);subst this;unfold Oper.wp;rw[i];rcases j with rfl | ⟨rfl,rfl⟩
  · exact m E' w' v' q p
  · exact m E' w' undef q p
 ·rename_i g args hr
  obtain⟨d,i,j⟩:=runOp_enters (P:=P) (ρ:=a.eval) hr t;unfold Oper.wp;rw[j w,Oper.upon_enter];refine Calls.mono (Mg R h r H i L F) ?_;rintro e w' ⟨v',E',rfl,u,T⟩;exact m E' w' v' T u
 · cases h
theorem deferA_spec {f f':AF} {o:Oper} (h:deferA f o=some f'):∃g args ts g' first captured,o.op=.defer ⟨.value g,args,ts⟩/\ev f g=.func (.func g') first captured/\
  f'=⟨f.tmps,f.size,(g',first.toList++args.toList.map (ev f)++captured.toList)::f.defers⟩:=by
 unfold deferA at h;split at h
 ·rename_i g args ts b
  split at h
  ·rename_i g' first captured a
   cases h
   exact⟨g,args,ts,g',first,captured,b,a,rfl⟩
  · cases h
 · cases h
theorem Gw {a:Rec} (R:Good P G a) {ops:Array Oper}:∀(l:List Oper) (f f':AF) (s b:HS),My P G a ops l f s=some (f',b)->∃m,Keeps s b m
 | [],f,f',s,b,h=>by cases h;exact⟨[],Keeps.refl _⟩
 |o::l,f,f',s,b,h=>by
  unfold My at h;split at h
  ·split at h
   · exact Gw R l _ _ _ _ h
   · cases h
  ·split at h
   ·split at h
    · exact Gw R l _ _ _ _ h
    · cases h
   ·split at h
    ·rename_i v s1 hs
     split at h
     ·obtain⟨m1,k1⟩:=Ii R hs
      obtain⟨c,k2⟩:=Gw R l _ _ _ _ h;exact⟨_,k1.trans k2⟩
     · cases h
    · cases h
theorem Nr {y:Rec} (R:Good P G y) {ops:Array Oper} {Q:Exit->Act->World->Prop}:∀(l:List Oper) (i:Nat) (f f':AF) (s n:HS) (a:Act) (E:Em) (w:World) (m:List Nat),
   ops.toList.drop i=l->My P G y ops l f s=some (f',n)->n.log=m++s.log->HR E s.at w->TR E f a->GL E G->DR E f.defers a.defers->Fresh E s.next n.next->
   (∀a' w' E',Tx E s.at w s.next E' n.at w' n.next m->TR E' f' a'->DR E' f'.defers a'.defers->Q .normal a' w')->wpOps P ops Q (List.range' i l.length) a w
 | [],i,f,f',s,n,a,E,w,m,_,h,hm,H,T,L,D,F,hQ=>by
   cases h
   have:m= []:=cancel (c:=s.log) (by simpa using hm.symm);subst this;exact hQ a w E (Tx.refl _ H) T D
 | o::l,i,f,f',s,n,a,E,w,m,hd,h,hm,H,T,L,D,F,hQ=>by
   have ho:ops[i]? =some o:=by
    have:=congrArg (·[0]?) hd;simpa using this
   have u:ops.toList.drop (i+1)=l:=by
    have:=congrArg List.tail hd;simpa using this
   rw[List.length_cons,List.range'_succ];simp only[wpOps,ho,wanted_tr T];unfold My at h;split at h
   ·rename_i M
    rw[M];simp only[Bool.false_eq_true,if_false];split at h
    ·rename_i z j
     refine Nr R l (i+1) z f' s n _ E w m u h hm H (T.put j VR.undef) L ?_ F hQ;rw[Dt,(AF.putO_spec j).2.1];exact D
    · cases h
   ·rename_i M
    rw[M];simp only[if_true];refine .inl ?_;split at h
    ·rename_i z x
     obtain⟨g,args,ts,B,first,e,q,he,rfl⟩:=deferA_spec x
     split at h
     ·rename_i Y J j
      have t:=ok_all T L J;have O:=t g (by rw[q];simp[Op.operands,Call.operands]);rw[he]at O;obtain⟨d,b,X,l1,l2⟩:=O.func_inv;have hl:=Li (E:=E) args.toList fun p j=>t p (by rw[q];simp[Op.operands,Call.operands,Array.mem_toList_iff.1 j]);have hx:(execOp a.eval o).run P w=.ok (.defer ⟨.fn (.func B) b,d++args.map a.eval⟩) w:=by
       obtain⟨W,op,U,pos,after,C⟩:=o;simp only at q;subst q;simp[execOp,resolve,X,Deferred.ofValue]
      unfold Oper.wp;rw[hx,Oper.upon_defer];refine Nr R l (i+1) Y f' s n _ E w m u h hm H ?_ L ?_ F hQ
      ·have r:TR E ⟨f.tmps,f.size,(B,first.toList++args.toList.map (ev f)++e.toList)::f.defers⟩ {a with defers:=⟨.fn (.func B) b,d++args.map a.eval⟩::a.defers}:=⟨T.size,T.get⟩
       exact r.put j VR.undef
      ·rw[Dt,(AF.putO_spec j).2.1]
       refine⟨⟨b,d++args.map a.eval,rfl,?_⟩,D⟩;simp only[Array.toList_append,Array.toList_map];exact (l1.append hl).append l2
     · cases h
    ·split at h
     ·rename_i v s1 K
      split at h
      ·rename_i z j
       obtain⟨m1,k1⟩:=Ii R K;obtain⟨S,k2⟩:=Gw R l _ _ _ _ h;have I:m=S++m1:=cancel (c:=s.log) (by rw[<- hm,k2.log,k1.log,List.append_assoc]);subst I;refine stepOp_wp R K k1.log H (ok_all T L (stepOp_ok K)) L (F.sub ql k2.le) fun E' w' v' r hv=>?_;refine Nr R l (i+1) z f' s1 n _ E' w' S u h k2.log r.hr ((T.ext r.ext).put j hv) (L.ext r.ext) ?_ (F.after r) fun a' N A V hT hD=>hQ a' N A (r.trans V) hT hD;rw[Dt,(AF.putO_spec j).2.1];exact D.ext r.ext
      · cases h
     · cases h
end
end Cx
namespace Cx
open Go
def mix {α:Type} (N:Nat->Nat->Bool) (R:Nat->Nat->α) (h:Nat->α) (D:Nat->Bool):Nat->Nat->α
 | 0,b=>h b
 | k+1,b=>if D k&&N k b then R k b else mix N R h D k b
section
variable {α:Type} {N:Nat->Nat->Bool} {R:Nat->Nat->α} {h:Nat->α}
theorem Qe {D D':Nat->Bool} {b:Nat}:∀k,(∀i,i<k->N i b=true->D i=D' i)->mix N R h D k b=mix N R h D' k b
 | 0,_=>rfl
 |k+1,hk=>by
  simp only[mix];rw[Qe k fun i hi=>hk i (by omega)];cases hn:N k b
  · simp
  · rw[hk k (by omega) hn]
theorem Kn {D:Nat->Bool} {b k:Nat}:∀m,k<=m->(∀i,k<=i->i<m->D i=true->N i b=false)->mix N R h D m b=mix N R h D k b
 | 0,hm,_=>by rw[Nat.le_zero.1 hm]
 |m+1,hm,hh=>by
  by_cases hk:k=m+1
  · rw[hk]
  ·simp only[mix]
   have:(D m&&N m b)=false:=by
    cases hd:D m
    · rfl
    · rw[hh m (by omega) (by omega) hd];rfl
   rw[this];simp only[Bool.false_eq_true,if_false];exact Kn m (by omega) fun i a c=>hh i a (by omega)
theorem Up {D D':Nat->Bool} {b k:Nat} (a:∀i,i≠k->D' i=D i) (c:N k b=false):∀m,mix N R h D' m b=mix N R h D m b
 | 0=>rfl
 |m+1=>by
  simp only[mix];rw[Up a c m];by_cases hm:m=k
  · subst hm;rw[c];simp
  · rw[a m hm]
theorem mix_in {D D':Nat->Bool} {b k:Nat} (e:∀i,i≠k->D' i=D i) (l:D' k=true) (g:N k b=true) (m:Nat) (a:k<m) (j:∀i,k<i->i<m->D i=true->N i b=false):mix N R h D' m b=R k b:=by
 rw[Kn (k:=k+1) m a fun i n c d=>j i (by omega) c (by rw[<- e i (by omega)];exact d)];simp[mix,l,g]
theorem mix_none {b:Nat} (m:Nat):mix N R h (fun _=>false) m b=h b:=Kn (k:=0) m (Nat.zero_le m) fun _ _ _ h=>by cases h
end
theorem Vs {p q:Nat->Bool} {i:Nat} (b:∀j,q j=true->p j=true) (c:p i=true) (d:q i=false):∀l:List Nat,i∈l->l.countP q<l.countP p
 | [],h=>by cases h
 |a::l,h=>by
  have hle:l.countP q<=l.countP p:=List.countP_mono_left fun j _=>b j;rw[List.countP_cons,List.countP_cons];rcases List.mem_cons.1 h with rfl | h
  · rw[c,d];simp;omega
  ·have:=Vs b c d l h
   cases hqa:q a
   · simp;omega
   · rw[b a hqa];simp;omega
end Cx
namespace Cx
open Go
section
variable {P:Program} {G:Gl} {rec:Rec} {ops:Array Oper} {anc:List Nat}
theorem Pw:∀(l:List Nat) (t:Tr AObj) (b:Nat),(∀c∈l,c<=lim)->(Kh l t).get b=if b∈l then none else t.get b
 | [],t,b,_=>by simp[Kh]
 |c::l,t,b,h=>by
  have hc:c<=lim:=h c (by simp);simp only[Kh,Gx];rw[Pw l _ b fun d a=>h d (by simp[a])];by_cases hb:b∈l
  · rw[if_pos hb,if_pos (by simp[hb])]
  ·rw[if_neg hb]
   by_cases hbc:b=c
   ·subst hbc
    rw[if_pos (by simp),Tr.Fp _ _ _ (by unfold deep;unfold lim at hc;omega)]
   · rw[if_neg (by simp[hb,hbc]),Tr.Cw _ _ _ _ hbc]
theorem Mv (a:Tr AObj):∀(l:List Nat) (t h:Tr AObj) (b:Nat),overlay a l t=some h->h.get b=if b∈l then a.get b else t.get b
 | [],t,h,b,ho=>by cases ho;simp
 |c::l,t,h,b,ho=>by
  unfold overlay at ho;split at ho
  ·rename_i hc
   have hc:=Cv hc;have ho:overlay a l (t.set deep c (a.get c))=some h:=by
    split at ho
    · rename_i o d;rw[d];simpa only[Gx] using ho
    · rename_i d;rw[d];simpa only[Gx] using ho
   rw[Mv a l _ h b ho];by_cases hb:b∈l
   · rw[if_pos hb,if_pos (by simp[hb])]
   ·rw[if_neg hb]
    by_cases hbc:b=c
    ·subst hbc
     rw[if_pos (by simp),Tr.Fp _ _ _ (by unfold deep;unfold lim at hc;omega)]
    · rw[if_neg (by simp[hb,hbc]),Tr.Cw _ _ _ _ hbc]
  · cases ho
theorem Jn {lo hi b:Nat} {l:List Nat}:b∈touched lo hi l↔b∈l/\¬(lo<=b/\b<hi):=by
 unfold touched;rw[List.mem_filter];simp only[Bool.not_eq_true',Bool.and_eq_false_iff];constructor
 ·rintro ⟨d,a⟩
  refine⟨d,fun c=>?_⟩;rcases a with a | a
  · rw[Nat.ble_eq_true_of_le c.1]at a;cases a
  ·have:Nat.blt b hi=true:=by rw[Nat.blt_eq];exact c.2
   rw[this]at a;cases a
 ·rintro ⟨d,a⟩
  refine⟨d,?_⟩;rcases Nat.lt_or_ge b lo with c | c
  ·left
   cases hb:Nat.ble lo b
   · rfl
   · have:=Cv hb;omega
  ·right
   cases hb:Nat.blt b hi
   · rfl
   · rw[Nat.blt_eq]at hb;exact absurd ⟨c,hb⟩ a
theorem mem_range1 {lo n b:Nat}:b∈List.range' lo n↔lo<=b/\b<lo+n:=List.mem_range'_1
structure Heaped (P:Program) (G:Gl) (rec:Rec) (anc:List Nat) (k:Nat) (o:Oper) (d d':DS) (v:Value) (t:HS) (rem nms:List Nat):Prop where
 rem_eq:rem=(d.done.filter fun x=> !Ht anc x.k k).flatMap (·.nms)
 ran:∃hp rds,Lr P G rec d.f ⟨hp,d.s.next,[]⟩ o=some (v,t)/\d'.done=⟨k,nms,rds⟩::d.done/\((∀x∈d.done,∀b∈x.nms,b<=lim)->∀b ob,hp.get b=some ob->d.s.at b=some ob/\b∉rem/\∀l,rds=some l->b∈l)
 low:∀b∈t.log,(d.s.next<=b/\b<t.next)\/(b<d.s.next/\b∉rem)
 free:∀x∈d.done,Ht anc x.k k=false->(∀b∈t.log,d.s.next<=b/\b<t.next)\/∃l,x.rds=some l/\∀b∈t.log,(d.s.next<=b/\b<t.next)\/b∉l
 room:t.next<=lim
 names:∀b,b∈nms↔(d.s.next<=b/\b<t.next)\/b∈t.log
 next:d'.s.next=t.next
 log:d'.s.log=t.log++d.s.log
 here:∀b,b∈nms->d'.s.at b=t.at b
 keep:∀b,b∉nms->d'.s.at b=d.s.at b
 put:d.f.putO o.dst v=some d'.f
inductive One (P:Program) (G:Gl) (rec:Rec) (ops:Array Oper) (anc:List Nat) (k:Nat) (o:Oper) (d d':DS):Prop where
 | off:Hn ops d.f o=false->d.f.putO o.dst undef=some d'.f->d'.s=d.s->d'.done=d.done->One P G rec ops anc k o d d'
 | val (v:Value):Hn ops d.f o=true->o.op.operands.all (okOp G)=true->heapless P d.f o=some v->d.f.putO o.dst v=some d'.f->d'.s=d.s->d'.done=d.done->One P G rec ops anc k o d d'
 | heap (v:Value) (t:HS) (rem nms:List Nat):Hn ops d.f o=true->o.op.operands.all (okOp G)=true->Heaped P G rec anc k o d d' v t rem nms->One P G rec ops anc k o d d'
theorem free_spec {d:List DRec} {a:List Nat} (h:free d a=true):a= []\/∀x∈d,∃l,x.rds=some l/\∀b∈a,b∉l:=by
 unfold free at h;split at h
 · exact .inl rfl
 ·right
  intro x c;have c:=List.all_eq_true.1 h x c;unfold apartR at c;split at c
  ·rename_i l g
   exact⟨l,g,fun b e=>by simpa using List.all_eq_true.1 c b e⟩
  · cases c
theorem Mw (a:List Nat) (t:Tr AObj) (b:Nat) (o:AObj):∀l:List Nat,(Qg a t l).get b=some o->t.get b=some o/\b∉a/\b∈l
 | [],h=>by cases h
 |c::r,h=>by
  unfold Qg at h;split at h
  ·rename_i o' hc ho
   rw[Gx]at h;simp only[Bool.and_eq_true]at hc;have hl:=Cv hc.1;by_cases hb:b=c
   ·subst hb
    rw[Tr.Fp _ _ _ (by unfold deep;unfold lim at hl;omega)]at h;cases h
    exact⟨ho,by simpa using hc.2,by simp⟩
   ·rw[Tr.Cw _ _ _ _ hb]at h
    obtain⟨d,e,g⟩:=Mw a t b o r h;exact⟨d,e,List.mem_cons_of_mem _ g⟩
  ·obtain⟨d,e,g⟩:=Mw a t b o r h
   exact⟨d,e,List.mem_cons_of_mem _ g⟩
theorem heapFor_get {t:Tr AObj} {a:List Nat} {rds:Option (List Nat)} (d:∀c∈a,c<=lim) {b:Nat} {o:AObj} (h:(heapFor t a rds).get b=some o):t.get b=some o/\b∉a/\∀l,rds=some l->b∈l:=by
 cases rds with
 |none=>
  have h:(Kh a t).get b=some o:=h;rw[Pw a t b d]at h;by_cases hr:b∈a
  · rw[if_pos hr]at h;cases h
  ·rw[if_neg hr]at h
   exact⟨h,hr,fun l e=>by cases e⟩
 |some l=>
  obtain⟨g,i,j⟩:=Mw a t b o l h;exact⟨g,i,fun m e=>by cases e;exact j⟩
theorem direct_spec {a:List Nat} {rds:Option (List Nat)} (h:direct a rds=true):a= []/\rds=none:=by
 unfold direct at h;split at h
 ·split at h
  · exact⟨rfl,rfl⟩
  · cases h
 · cases h
theorem joinA_spec {s t g:HS} {d:List DRec} {c a nms:List Nat} {rds:Option (List Nat)} (h:joinA s t d c rds a=some (g,nms)):
  t.next<=lim/\(∀b∈a,b<s.next/\b∉c)/\(a= []\/∀x∈d,∃l,x.rds=some l/\∀b∈a,b∉l)/\nms=List.range' s.next (t.next-s.next)++a/\g.next=t.next/\g.log=t.log++s.log/\
   (((c= []/\rds=none)/\g.heap=t.heap)\/overlay t.heap nms s.heap=some g.heap):=by
 have e:(Nat.ble t.next lim&&a.all (fun b=>Nat.blt b s.next&& !c.contains b))=true->t.next<=lim/\(∀b∈a,b<s.next/\b∉c):=by
  intro h;rw[Bool.and_eq_true]at h;refine⟨Cv h.1,fun b n=>?_⟩;have:=List.all_eq_true.1 h.2 b n;rw[Bool.and_eq_true,Nat.blt_eq]at this;exact⟨this.1,by simpa using this.2⟩
 unfold joinA at h;split at h
 ·rename_i i j m
  cases h
  obtain⟨k1,k2⟩:=e i;exact⟨k1,k2,free_spec j,rfl,rfl,rfl,.inl ⟨direct_spec m,rfl⟩⟩
 ·rename_i i j m
  obtain⟨k1,k2⟩:=e i;split at h
  ·rename_i p o
   cases h
   exact⟨k1,k2,free_spec j,rfl,rfl,rfl,.inr o⟩
  · cases h
 · cases h
theorem drawn1_one (R:Good P G rec) {k:Nat} {o:Oper} {d E:DS} (h:Vu P G rec ops anc k o d=some E):One P G rec ops anc k o d E:=by
 unfold Vu at h;split at h
 ·rename_i y
  split at h
  · rename_i I r;cases h;exact .off y r rfl rfl
  · cases h
 ·rename_i y
  split at h
  · cases h
  ·rename_i m
   rw[allOk_eq]at m;split at h
   ·rename_i v S
    split at h
    · rename_i I r;cases h;exact .val v y m S r rfl rfl
    · cases h
   ·split at h
    ·rename_i v L nms n
     split at h
     ·rename_i I r
      cases h
      unfold heapStep at n;split at n
      ·rename_i v1 t i
       split at n
       ·rename_i s2 J N
        cases n
        obtain⟨T,U,u,V,W,X,g⟩:=joinA_spec N;obtain⟨l,K⟩:=Ii R i;have C:l=t.log:=by have:=K.log;simpa using this.symm
        subst C;have O:d.s.next<=t.next:=K.le;have e:∀b,b∈nms↔(d.s.next<=b/\b<t.next)\/b∈t.log:=by
         intro b;rw[V,List.mem_append,mem_range1,Jn];constructor
         ·rintro (h | h)
          · exact .inl (by omega)
          · exact .inr h.1
         ·rintro (h | h)
          · exact .inl (by omega)
          ·by_cases a:d.s.next<=b/\b<t.next
           · exact .inl (by omega)
           · exact .inr ⟨h,a⟩
        refine .heap v t _ nms y m ⟨rfl,⟨_,_,i,rfl,fun q b ob a=>heapFor_get (fun c A=>by
         obtain⟨x,p,A⟩:=List.mem_flatMap.1 A;exact q x (List.mem_filter.1 p).1 c A) a⟩,?_,?_,T,e,W,X,?_,?_,r⟩
        ·intro b a
         by_cases p:d.s.next<=b/\b<t.next
         · exact .inl p
         · exact .inr (U b (Jn.2 ⟨a,p⟩))
        ·intro x p z
         rcases u with u | u
         ·left
          intro b a;refine Classical.byContradiction fun Q=>?_;have:b∈touched d.s.next t.next t.log:=Jn.2 ⟨a,Q⟩;rw[u]at this;cases this
         ·right
          obtain⟨l,C,M⟩:=u x (List.mem_filter.2 ⟨p,by simp[z]⟩);refine⟨l,C,fun b a=>?_⟩;by_cases hm:d.s.next<=b/\b<t.next
          · exact .inl hm
          · exact .inr (M b (Jn.2 ⟨a,hm⟩))
        ·intro b a
         rcases g with ⟨_,g⟩ | g
         ·unfold HS.at
          rw[g]
         ·have:=Mv t.heap nms d.s.heap L.heap b g
          rw[if_pos a]at this;exact this
        ·intro b a
         rcases g with ⟨⟨D,Y⟩,g⟩ | g
         ·have j:=a
          rw[e]at j;simp only[not_or]at j;have B:=K.keep b (by show b<d.s.next\/t.next<=b;omega) j.2;rw[D,Y]at B;unfold HS.at at B ⊢;rw[g];exact B
         ·have:=Mv t.heap nms d.s.heap L.heap b g
          rw[if_neg a]at this;exact this
       · cases n
      · cases n
     · cases h
    · cases h
end
end Cx
namespace Cx
open Go
section
variable {P:Program} {G:Gl} {rec:Rec} {ops:Array Oper} {anc:List Nat}
theorem Mj:∀(l:List Oper) (k:Nat) (d e:DS),Un P G rec ops anc l k d=some e->
   ∃st:Nat->DS,st 0=d/\st l.length=e/\∀i o,l[i]? =some o->Vu P G rec ops anc (k+i) o (st i)=some (st (i+1))
 | [],k,d,e,h=>by
   cases h
   exact⟨fun _=>d,rfl,rfl,fun i o ho=>by simp at ho⟩
 | o::l,k,d,e,h=>by
   unfold Un at h;split at h
   ·rename_i d1 h1
    obtain⟨st,s0,sn,hs⟩:=Mj l (k+1) d1 e h;refine⟨fun i=>match i with | 0=>d | i+1=>st i,rfl,sn,fun i a ho=>?_⟩;cases i with
    |zero=>
     simp only[List.getElem?_cons_zero,Option.some.injEq]at ho;subst ho;show Vu P G rec ops anc k o d=some (st 0);rw[s0];exact h1
    |succ i=>
     have:=hs i a (by simpa using ho);rw[show k+(i+1)=k+1+i by omega];exact this
   · cases h
theorem Tu:∀(l:List Oper) (k:Nat),statOk ops anc l k=true->∀i o,l[i]? =some o->Uy anc (k+i) o=true/\Pm ops anc (k+i) o=true
 | [],k,_,i,o,ho=>by simp at ho
 |x::l,k,h,i,o,ho=>by
  simp only[statOk,Bool.and_eq_true]at h;cases i with
  |zero=>
   simp only[List.getElem?_cons_zero,Option.some.injEq]at ho;subst ho;exact⟨h.1,h.2.1⟩
  |succ i=>
   have:=Tu l (k+1) h.2.2 i o (by simpa using ho);rw[show k+(i+1)=k+1+i by omega];exact this
def Ms (st:Nat->DS) (k:Nat):List Nat:=match (st (k+1)).done with
 | x::_=>if x.k=k then x.nms else []
 | []=> []
def NB (st:Nat->DS) (k b:Nat):Bool:=decide (b∈Ms st k)
def TB (ops:Array Oper) (k t:Nat):Bool:=decide ((ops[k]?).bind (·.dst)=some t)
structure Line (P:Program) (G:Gl) (rec:Rec) (ops:Array Oper) (anc:List Nat) (st:Nat->DS):Prop where
 good:Good P G rec
 one:∀k o,ops[k]? =some o->One P G rec ops anc k o (st k) (st (k+1))
 init:(st 0).done= []
 ancs:∀k o,ops[k]? =some o->Uy anc k o=true
 aparts:∀k o,ops[k]? =some o->Pm ops anc k o=true
variable {st:Nat->DS}
theorem Kq {k:Nat} (h:k<ops.size):∃o,ops[k]? =some o:=⟨ops[k],by simp[h]⟩
theorem Line.next1 (Z:Line P G rec ops anc st) {k:Nat} (h:k<ops.size):(st k).s.next<=(st (k+1)).s.next:=by
 obtain⟨o,b⟩:=Kq h;cases Z.one k o b with
 | off _ _ h1 _=>rw[h1];exact ql
 | val _ _ _ _ _ h1 _=>rw[h1];exact ql
 |heap v t rem nms _ _ H=>
  obtain⟨c,rds,a,_⟩:=H.ran;obtain⟨l,K⟩:=Ii Z.good a;rw[H.next];exact K.le
theorem Line.next (Z:Line P G rec ops anc st) {i:Nat}:∀j,i<=j->j<=ops.size->(st i).s.next<=(st j).s.next
 | 0,h1,_=>by rw[Nat.le_zero.1 h1];exact ql
 |j+1,h1,h2=>by
  by_cases hi:i=j+1
  · rw[hi];exact ql
  · exact Nat.le_trans (Line.next Z (i:=i) j (by omega) (by omega)) (Z.next1 (by omega))
theorem Line.log (Z:Line P G rec ops anc st) {i:Nat}:∀j,i<=j->j<=ops.size->∃X,(st j).s.log=X++(st i).s.log
 | 0,h1,_=>by rw[Nat.le_zero.1 h1];exact⟨[],rfl⟩
 |j+1,h1,h2=>by
  by_cases hi:i=j+1
  · rw[hi];exact⟨[],rfl⟩
  ·obtain⟨X,hX⟩:=Line.log Z (i:=i) j (by omega) (by omega)
   obtain⟨o,a⟩:=Kq (ops:=ops) (k:=j) (by omega);cases Z.one j o a with
   | off _ _ h1 _=>rw[h1];exact⟨X,hX⟩
   | val _ _ _ _ _ h1 _=>rw[h1];exact⟨X,hX⟩
   | heap v t rem nms _ _ H=>exact⟨t.log++X,by rw[H.log,hX,List.append_assoc]⟩
theorem Line.done (Z:Line P G rec ops anc st):∀k,k<=ops.size->∀x∈(st k).done,x.k<k/\x.nms=Ms st x.k/\∀b∈x.nms,b< (st k).s.next/\b<=lim
 | 0,_,x,hx=>by rw[Z.init]at hx;cases hx
 |k+1,hk,x,hx=>by
  obtain⟨o,ho⟩:=Kq (ops:=ops) (k:=k) (by omega);have a:x∈(st k).done->x.k<k+1/\x.nms=Ms st x.k/\∀b∈x.nms,b< (st (k+1)).s.next/\b<=lim:=by
   intro hx;obtain⟨c,j,g⟩:=Z.done k (by omega) x hx;exact⟨by omega,j,fun b d=>⟨Nat.lt_of_lt_of_le (g b d).1 (Z.next1 (by omega)),(g b d).2⟩⟩
  cases Z.one k o ho with
  | off _ _ _ c=>rw[c]at hx;exact a hx
  | val _ _ _ _ _ _ c=>rw[c]at hx;exact a hx
  |heap v t rem nms _ _ H=>
   obtain⟨m,rds,_,i,_⟩:=H.ran;rw[i]at hx;rcases List.mem_cons.1 hx with rfl | hx
   ·refine⟨Nat.lt_succ_self k,by simp[Ms,i],fun b d=>?_⟩
    have l:(st k).s.next<=t.next:=by rw[<- H.next];exact Z.next1 (by omega)
    have e:=H.room;rw[H.next];rcases (H.names b).1 d with h | h
    · omega
    ·rcases H.low b h with h | h
     · omega
     · omega
   · exact a hx
theorem Line.quiet (Z:Line P G rec ops anc st) {k:Nat} (b:k<ops.size) (h:(st (k+1)).done=(st k).done):Ms st k= []:=by
 unfold Ms;rw[h];split
 ·rename_i x r a
  have:=(Z.done k (by omega) x (by rw[a];simp)).1;rw[if_neg (by omega)]
 · rfl
theorem Heaped.nms_eq {k:Nat} {o:Oper} {v:Value} {t:HS} {a nms:List Nat} (H:Heaped P G rec anc k o (st k) (st (k+1)) v t a nms):Ms st k=nms:=by
 obtain⟨c,rds,_,b,_⟩:=H.ran;unfold Ms;rw[b];simp
theorem Line.in_done (Z:Line P G rec ops anc st) {k:Nat} {x:DRec} (H:(st (k+1)).done=x::(st k).done):∀m,k<m->m<=ops.size->x∈(st m).done
 | 0,h1,_=>by omega
 |m+1,h1,h2=>by
  by_cases hm:m=k
  ·subst hm
   rw[H];simp
  ·have:=Line.in_done Z (k:=k) H m (by omega) (by omega)
   obtain⟨c,b⟩:=Kq (ops:=ops) (k:=m) (by omega);cases Z.one m c b with
   | off _ _ _ h1=>rw[h1];exact this
   | val _ _ _ _ _ _ h1=>rw[h1];exact this
   |heap v t rem nms _ _ H'=>
    obtain⟨d,rds,_,a,_⟩:=H'.ran;rw[a];exact List.mem_cons_of_mem _ this
theorem Line.named (Z:Line P G rec ops anc st) {k b:Nat} (c:k<ops.size) (h:NB st k b=true):∃o v t rem nms,Heaped P G rec anc k o (st k) (st (k+1)) v t rem nms/\b∈nms:=by
 obtain⟨o,d⟩:=Kq c;have a:b∈Ms st k:=by simpa [NB] using h
 cases Z.one k o d with
 | off _ _ _ h1=>rw[Z.quiet c h1]at a;cases a
 | val _ _ _ _ _ _ h1=>rw[Z.quiet c h1]at a;cases a
 | heap v t rem nms _ _ H=>rw[H.nms_eq]at a;exact⟨o,v,t,rem,nms,H,a⟩
theorem Line.heap (Z:Line P G rec ops anc st) (b:Nat):∀k,k<=ops.size->(st k).s.at b=mix (NB st) (fun k=>(st (k+1)).s.at) (st 0).s.at (fun _=>true) k b
 | 0,_=>rfl
 |k+1,hk=>by
  obtain⟨o,ho⟩:=Kq (ops:=ops) (k:=k) (by omega);simp only[mix,Bool.true_and];cases a:NB st k b
  ·simp only[Bool.false_eq_true,if_false]
   rw[<- Z.heap b k (by omega)];have a:b∉Ms st k:=by simpa [NB] using a
   cases Z.one k o ho with
   | off _ _ h1 _=>rw[h1]
   | val _ _ _ _ _ h1 _=>rw[h1]
   | heap v t rem nms _ _ H=>rw[H.nms_eq]at a;exact H.keep b a
  · simp
theorem One.put {k:Nat} {o:Oper} {d a:DS} (h:One P G rec ops anc k o d a):∃v,d.f.putO o.dst v=some a.f:=by
 cases h with
 | off _ h1 _ _=>exact⟨_,h1⟩
 | val _ _ _ _ h1 _ _=>exact⟨_,h1⟩
 | heap v t rem nms _ _ H=>exact⟨_,H.put⟩
theorem Line.tmps (Z:Line P G rec ops anc st) (b:Nat):∀k,k<=ops.size->(st k).f.get b=mix (TB ops) (fun k=>(st (k+1)).f.get) (st 0).f.get (fun _=>true) k b
 | 0,_=>rfl
 |k+1,hk=>by
  obtain⟨o,ho⟩:=Kq (ops:=ops) (k:=k) (by omega);simp only[mix,Bool.true_and];cases hb:TB ops k b
  ·simp only[Bool.false_eq_true,if_false]
   rw[<- Z.tmps b k (by omega)];obtain⟨v,a⟩:=(Z.one k o ho).put;have:=(AF.putO_spec a).2.2 b;rw[this,if_neg];simpa [TB,ho] using hb
  · simp
theorem Line.frame (Z:Line P G rec ops anc st):∀k,k<=ops.size->(st k).f.size=(st 0).f.size/\(st k).f.defers=(st 0).f.defers
 | 0,_=>⟨rfl,rfl⟩
 |k+1,hk=>by
  obtain⟨o,ho⟩:=Kq (ops:=ops) (k:=k) (by omega);obtain⟨v,e⟩:=(Z.one k o ho).put;obtain⟨a,b,_⟩:=AF.putO_spec e;obtain⟨c,d⟩:=Z.frame k (by omega);exact⟨a.trans c,b.trans d⟩
theorem Line.apart2 (Z:Line P G rec ops anc st) {i j:Nat} {x y:Oper} (hi:ops[i]? =some x) (g:ops[j]? =some y) (b:i<j):
  (∀d,x.dst=some d->y.dst≠some d)/\(Ht anc i j=false->(∀d,x.dst=some d->d∉y.looksAt ops)/\(∀d,y.dst=some d->d∉x.looksAt ops)):=by
 have h:=Z.aparts j y g;unfold Pm at h;rw[List.all_eq_true]at h;have:=h i (List.mem_range.2 b);rw[hi]at this;simp only[Bool.and_eq_true,Bool.or_eq_true]at this;refine⟨fun d e=>?_,fun c=>?_⟩
 ·have a:=this.1
  rw[e]at a;simpa using a
 ·rcases this.2 with a | a
  · rw[c]at a;cases a
  ·obtain⟨k1,k2,k3⟩:=Oper.apart_spec a
   exact⟨k1,k3⟩
end
end Cx
namespace Cx
open Go
section
variable {P:Program} {G:Gl} {rec:Rec} {ops:Array Oper} {anc:List Nat} {st:Nat->DS}
abbrev mixH (ops:Array Oper) (st:Nat->DS) (D:Nat->Bool):Hp:=mix (NB st) (fun k=>(st (k+1)).s.at) (st 0).s.at D ops.size
abbrev mixT (ops:Array Oper) (st:Nat->DS) (D:Nat->Bool):Nat->Value:=mix (TB ops) (fun k=>(st (k+1)).f.get) (st 0).f.get D ops.size
structure Root (G:Gl) (ops:Array Oper) (st:Nat->DS) (E0:Em) (w0:World) (L:List Nat):Prop where
 hr:HR E0 (st 0).s.at w0
 gl:GL E0 G
 fresh:Fresh E0 (st 0).s.next (st ops.size).s.next
 log:(st ops.size).s.log=L++(st 0).s.log
structure Inv (ops:Array Oper) (st:Nat->DS) (E0:Em) (w0:World) (L:List Nat) (D:Nat->Bool) (E:Em) (a:Act) (w:World):Prop where
 tx:Tx E0 (st 0).s.at w0 (st 0).s.next E (mixH ops st D) w (st ops.size).s.next L
 size:a.tmps.size=(st 0).f.size
 get:∀t,VR E (mixT ops st D t) (a.tmps.getD t undef)
 defers:DR E (st 0).f.defers a.defers
 fresh:∀k,k<ops.size->D k=false->Fresh E (st k).s.next (st (k+1)).s.next
structure Closed (anc:List Nat) (D:Nat->Bool) (k:Nat):Prop where
 out:D k=false
 mine:∀j,j<k->Ht anc j k=true->D j=true
 all:∀i,D i=true->k<i->Ht anc k i=false
variable {E0 E:Em} {w0 w:World} {L:List Nat} {D D':Nat->Bool} {a:Act} {k:Nat} {o:Oper}
theorem read_tmps (Z:Line P G rec ops anc st) (g:ops[k]? =some o) (C:Closed anc D k) {t:Nat} (j:t∈o.looksAt ops):mixT ops st D t=(st k).f.get t:=by
 have q:k<ops.size:=(qd g);rw[Z.tmps t k (by omega)];have l:mix (TB ops) (fun k=>(st (k+1)).f.get) (st 0).f.get D ops.size t=mix (TB ops) (fun k=>(st (k+1)).f.get) (st 0).f.get D k t:=by
  refine Kn ops.size (by omega) fun i hi e a=>?_;obtain⟨x,b⟩:=Kq e;have p:i≠k:=fun h=>by subst h;rw[C.out]at a;cases a
  obtain⟨_,d⟩:=Z.apart2 g b (by omega);obtain⟨_,m⟩:=d (C.all i a (by omega));unfold TB;rw[b];simp only[Option.bind_some,decide_eq_false_iff_not];intro n;exact m t n j
 rw[show mixT ops st D t=_ from l];refine Qe k fun i hi c=>?_;obtain⟨x,b⟩:=Kq (ops:=ops) (k:=i) (by omega);unfold TB at c;rw[b]at c;simp only[Option.bind_some,decide_eq_true_eq]at c;cases ha:Ht anc i k with
 | true=>exact C.mine i hi ha
 |false=>
  obtain⟨_,d⟩:=Z.apart2 b g hi;exact absurd j ((d ha).1 t c)
theorem read_heap (Z:Line P G rec ops anc st) (I:Root G ops st E0 w0 L) (C:Closed anc D k) {v:Value} {t:HS} {u nms:List Nat} (hk:k<ops.size) (H:Heaped P G rec anc k o (st k) (st (k+1)) v t u nms)
  {rds:Option (List Nat)} (J:(st (k+1)).done=⟨k,nms,rds⟩::(st k).done) {b:Nat} {O:AObj} (z:(st k).s.at b=some O) (hr:b∉u) (M:∀l,rds=some l->b∈l):mixH ops st D b=some O:=by
 rw[<- z,Z.heap b k (by omega)];have m:mix (NB st) (fun k=>(st (k+1)).s.at) (st 0).s.at D ops.size b=mix (NB st) (fun k=>(st (k+1)).s.at) (st 0).s.at D k b:=by
  refine Kn ops.size (by omega) fun i hi K c=>?_;have X:i≠k:=fun h=>by subst h;rw[C.out]at c;cases c
  cases N:NB st i b with
  | false=>rfl
  |true=>
   exfalso;obtain⟨o',v',U,x,p,g,d⟩:=Z.named K N;have a:=Z.in_done J i (by omega) (by omega);have R:(st i).s.next<=b/\b<U.next:=by
    rcases (g.names b).1 d with h | h
    · exact h
    ·rcases g.free _ a (C.all i c (by omega)) with m | ⟨l,W,m⟩
     · exact m b h
     ·rcases m b h with y | y
      · exact y
      · exact absurd (M l W) y
   have n:(st k).s.at b=(st 0).s.at b:=by
    rw[Z.heap b k (by omega)];refine Kn (k:=0) k (Nat.zero_le k) fun j _ hj _=>?_;cases hy:NB st j b with
    | false=>rfl
    |true=>
     exfalso;obtain⟨o2,v2,t2,T,q,V,A⟩:=Z.named (by omega) hy;obtain⟨a0,r,_,E,_⟩:=V.ran;have h3:=(Z.done (j+1) (by omega) ⟨j,q,r⟩ (by rw[E];simp)).2.2 b A;have h4:=Z.next (i:=j+1) i (by omega) (by omega);omega
   rw[n]at z;obtain⟨e,Q,_⟩:=I.hr.here b O z;have h5:=Z.next (i:=0) i (by omega) (by omega);have h6:=Z.next (i:=i+1) ops.size (by omega) (by omega);rw[I.fresh b (by omega) (by have:=g.next;omega)]at Q;cases Q
 rw[show mixH ops st D b=_ from m];refine Qe k fun i hi N=>?_;cases ha:Ht anc i k with
 | true=>exact C.mine i hi ha
 |false=>
  exfalso;obtain⟨o',v',U,x,p,g,d⟩:=Z.named (by omega) N;obtain⟨Y,S,_,B,_⟩:=g.ran;have a:=Z.in_done B k hi (by omega);refine hr ?_;rw[H.rem_eq,List.mem_flatMap];exact⟨_,List.mem_filter.2 ⟨a,by simp[ha]⟩,d⟩
theorem write_heap (Z:Line P G rec ops anc st) (C:Closed anc D k) (j:D' k=true) (c:∀i,i≠k->D' i=D i) {v:Value} {t:HS} {r nms:List Nat} (y:k<ops.size) (H:Heaped P G rec anc k o (st k) (st (k+1)) v t r nms):
  patch nms t.at (mixH ops st D)=mixH ops st D':=by
 funext b
 unfold patch;by_cases hb:b∈nms
 ·rw[if_pos hb,<-H.here b hb]
  refine (mix_in (N:=NB st) (R:=fun k=>(st (k+1)).s.at) (h:=(st 0).s.at) c j (by unfold NB;rw[H.nms_eq];simpa using hb) ops.size y fun i hi p l=>?_).symm;cases hx:NB st i b with
  | false=>rfl
  |true=>
   exfalso;obtain⟨B,I,E,e,u,g,m⟩:=Z.named p hx;obtain⟨A,x,_,n,_⟩:=H.ran;have a:=Z.in_done n i hi (by omega);have q:=C.all i l hi;have z:=(Z.done i (by omega) _ a).2.2 b hb;have d:b∈e:=by
    rw[g.rem_eq,List.mem_flatMap];exact⟨_,List.mem_filter.2 ⟨a,by simp[q]⟩,hb⟩
   rcases (g.names b).1 m with h | h
   · omega
   ·rcases g.low b h with h | h
    · omega
    · exact h.2 d
 ·rw[if_neg hb]
  exact (Up c (by unfold NB;rw[H.nms_eq];simpa using hb) ops.size).symm
theorem quiet_heap (a:∀i,i≠k->D' i=D i) (c:Ms st k= []):mixH ops st D=mixH ops st D':=by
 funext b
 exact (Up a (by unfold NB;rw[c];rfl) ops.size).symm
theorem Xy (Z:Line P G rec ops anc st) (c:ops[k]? =some o) (d:D' k=true) (b:∀i,i≠k->D' i=D i) {v g:Value} (j:(st k).f.putO o.dst v=some (st (k+1)).f) (q:a.tmps.size=(st 0).f.size)
  (r:VR E v g) (h:∀t,VR E (mixT ops st D t) (a.tmps.getD t undef)) (t:Nat):VR E (mixT ops st D' t) ((a.put o.dst g).tmps.getD t undef):=by
 have p:k<ops.size:=(qd c);rw[Sd a o.dst g t fun m n=>by rw[q,<-(Z.frame k (by omega)).1];exact putO_lt j m n];by_cases ht:o.dst=some t
 ·rw[if_pos ht]
  have:mixT ops st D' t=(st (k+1)).f.get t:=by
   refine mix_in b d (by unfold TB;rw[c];simpa using ht) ops.size p fun i hi e _=>?_;obtain⟨x,l⟩:=Kq e;unfold TB;rw[l];simp only[Option.bind_some,decide_eq_false_iff_not];exact (Z.apart2 c l hi).1 t ht
  rw[this,(AF.putO_spec j).2.2 t,if_pos ht];exact r
 ·rw[if_neg ht]
  have:mixT ops st D' t=mixT ops st D t:=Up b (by unfold TB;rw[c];simpa using ht) ops.size;rw[this];exact h t
theorem inv_step (Z:Line P G rec ops anc st) (I:Root G ops st E0 w0 L) (M:ops[k]? =some o) (C:Closed anc D k) (p:D' k=true) (d:∀i,i≠k->D' i=D i) (J:Inv ops st E0 w0 L D E a w)
  {K:Act->World->Prop} {Q:Exit->Act->World->Prop} (hK:∀E' a' w',Inv ops st E0 w0 L D' E' a' w'->K a' w'):wpOp P ops Q k K a w:=by
 have W:k<ops.size:=(qd M);have y:∀t,t∈o.looksAt ops->VR E ((st k).f.get t) (a.tmps.getD t undef):=fun t ht=>by rw[<- read_tmps Z M C ht];exact J.get t
 have hw:Region.wanted o (yielded ops a.tmps)=Hn ops (st k).f o:=Xs fun g wt t hg ht=>y t (by simp[Oper.looksAt,hg,ht]);have hρ:o.op.operands.all (okOp G)=true->∀z∈o.op.operands,VR E (ev (st k).f z) (a.eval z):=by
  intro a3 z hz;have u:=Array.all_eq_true_iff_forall_mem.1 a3 z hz;cases z with
  | tmp t=>exact y t (List.mem_append_left _ (List.mem_filterMap.2 ⟨.tmp t,by simpa using hz,rfl⟩))
  | const v=>exact Du v u
  |global g=>
   obtain⟨e,he,q⟩:=(I.gl.ext J.tx.ext) g (by simpa [okOp] using u);have:=VR.ptr g 0 e he;rw[q]at this;exact this
  | func g=>exact VR.func' trivial trivial
 have same:∀v V,(st k).f.putO o.dst v=some (st (k+1)).f->(st (k+1)).done=(st k).done->VR E v V->Inv ops st E0 w0 L D' E (a.put o.dst V) w:=by
  intro v V hp hd hv;refine⟨?_,by rw[Ku];exact J.size,Xy Z M p d hp J.size hv J.get,by rw[Dt];exact J.defers,fun i hi j=>J.fresh i hi ?_⟩
  ·rw[<- quiet_heap d (Z.quiet W hd)]
   exact J.tx
  ·by_cases r:i=k
   · subst r;exact C.out
   · rw[<- d i r];exact j
 unfold wpOp;simp only[M];rw[hw];cases Z.one k o M with
 |off A B _ n=>
  rw[A];simp only[Bool.false_eq_true,if_false];exact hK E _ _ (same _ _ B n VR.undef)
 |val v A B n h4 _ h5=>
  rw[A];simp only[if_true];refine .inl ?_;obtain⟨V,k1,k2⟩:=Lg n (hρ B);unfold Oper.wp;rw[k2 w];exact hK E _ _ (same _ _ h4 h5 k1)
 |heap v t rem nms A B H=>
  rw[A];simp only[if_true];refine .inl ?_;obtain⟨hp,rds,U,a2,m⟩:=H.ran;have m:=m fun x hx c hc=>((Z.done k (by omega) x hx).2.2 c hc).2;have sub:∀b ob,(⟨hp,(st k).s.next,[]⟩:HS).at b=some ob->mixH ops st D b=some ob:=by
   intro b ob q;obtain⟨A,B,n⟩:=m b ob q;exact read_heap Z I C W H a2 A B n
  have R:Fresh E (st k).s.next t.next:=by rw[<- H.next];exact J.fresh k W C.out
  refine stepOp_wp Z.good U (l:=t.log) (by simp) (J.tx.hr.sub sub) (hρ B) (I.gl.ext J.tx.ext) R fun E' w' V T hv=>?_;have T2:=T.lift J.tx.hr sub R (N:=nms) H.names;rw[write_heap Z C p d W H]at T2;have n1:=Z.next (i:=0) k (by omega) (by omega);have n2:=Z.next (i:=k+1) ops.size (by omega) (by omega);rw[H.next]at n2;have T3:=J.tx.within T2 n1 n2;have S:∀b∈t.log++L,b∈L:=by
   intro b q;rcases List.mem_append.1 q with q | q
   ·obtain⟨X,hX⟩:=Z.log (i:=k+1) ops.size (by omega) (by omega)
    obtain⟨Y,hY⟩:=Z.log (i:=0) k (by omega) (by omega);have:L=X++(t.log++Y):=cancel (c:=(st 0).s.log) (by rw[<- I.log,hX,H.log,hY];simp);rw[this];simp[q]
   · exact q
  refine hK E' _ _ ⟨T3.weaken S,by rw[Ku];exact J.size,Xy Z M p d H.put J.size hv fun t=>(J.get t).ext T.ext,by rw[Dt];exact J.defers.ext T.ext,fun i hi j=>?_⟩;have r:i≠k:=fun h=>by subst h;rw[p]at j;cases j
  have O:D i=false:=by rw[<- d i r];exact j
  intro b a0 a1;cases hx:E' b with
  | none=>rfl
  |some e=>
   rcases T.dom b e hx with n | n
   · rw[J.fresh i hi O b a0 a1]at n;cases n
   ·exfalso
    have a4:(st k).s.next<=b/\b< (st (k+1)).s.next:=by rw[H.next];exact n
    rcases Nat.lt_or_ge i k with a6 | a5
    ·have:=Z.next (i:=i+1) k (by omega) (by omega)
     omega
    ·have:=Z.next (i:=k+1) i (by omega) (by omega)
     omega
end
end Cx
end Go.Proofs.YtjefcpjciogcjaaGreatDoor
