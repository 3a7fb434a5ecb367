/- Lemmas for the walk of the law, in 7 parts. No condition beyond what each states. -/
import Derived.Test.YtjefcpjciogcjaaGreatDoorG5
import Derived.Test.YtjefcpjciogcjaaGreatDoorG2
import Derived.WalkKit
import Derived.Test.YtjefcpjciogcjaaGreatDoorG0
namespace Go.Proofs.YtjefcpjciogcjaaGreatDoor
set_option maxRecDepth 100000
set_option linter.unusedVariables false
open Tryz
namespace MatchMath
theorem Wg {k:Nat}:∀ {l:List Re},(∀t∈l,gok k t=true)->gokL k l=true
 | [],_=>by unfold gokL;rfl
 |x::r,h=>by
  unfold gokL;rw[h x (by simp),Wg (fun t ht=>h t (by simp[ht]))];rfl
theorem En:∀(a b:List Re),sizes (a++b)=sizes a+sizes b
 | [],b=>by simp[sizes]
 | x::a,b=>by rw[List.cons_append,sizes,sizes,En a b];omega
theorem Fr (x:Re):∀n,sizes (List.replicate n x)=n*size x
 | 0=>by simp[sizes]
 | n+1=>by rw[List.replicate_succ,sizes,Fr x n,Nat.succ_mul];omega
theorem Rq:Dg noP=true:=by unfold Dg noP;simp
theorem He {k:Nat} {o:Int} {s:Nat->Bool} {l h g:Int} {args:List Re} (a:gok k (.mk o s l h g args)=true):
  shaped (.mk o s l h g args)=true/\(o=5->counted l h=true)/\(o=6\/o=9->1<=g/\g<=(k:Int))/\gokL k args=true:=by
 unfold gok at a;simp only[Bool.and_eq_true]at a;refine⟨a.1.1,fun b=>?_,fun c=>?_,a.2⟩
 ·have:=a.1.2.1
  rwa [if_pos b]at this
 ·have:=a.1.2.2
  rw[if_pos c]at this;exact of_decide_eq_true this
theorem Ek {o:Int} {s:Nat->Bool} {l h g:Int} {args:List Re} (a:shaped (.mk o s l h g args)=true):
  ((o=1\/o=7\/o=8)/\args= []/\l=0/\h=0/\g=0/\Dg s=true)\/(o=2/\args= []/\l=0/\h=0/\g=0)\/((o=3\/o=4)/\2<=args.length/\l=0/\h=0/\g=0/\Dg s=true)\/
  (o=5/\(∃x,args= [x])/\g=0/\Dg s=true)\/(o=6/\(∃x,args= [x])/\l=0/\h=0/\Dg s=true)\/(o=9/\args= []/\l=0/\h=0/\Dg s=true):=by
 unfold shaped at a;simp only at a;split at a
 ·simp only[Bool.and_eq_true,decide_eq_true_eq]at a
  exact .inl ⟨by assumption,List.eq_nil_of_length_eq_zero a.1.1.1,a.1.1.2.1,a.1.1.2.2,a.1.2,a.2⟩
 split at a
 ·simp only[Bool.and_eq_true,decide_eq_true_eq]at a
  exact .inr (.inl ⟨by assumption,List.eq_nil_of_length_eq_zero a.1.1.1,a.1.1.2.1,a.1.1.2.2,a.1.2⟩)
 split at a
 ·simp only[Bool.and_eq_true,decide_eq_true_eq]at a
  exact .inr (.inr (.inl ⟨by assumption,a.1.1.1,a.1.1.2.1,a.1.1.2.2,a.1.2,a.2⟩))
 split at a
 ·simp only[Bool.and_eq_true,decide_eq_true_eq]at a
  exact .inr (.inr (.inr (.inl ⟨by assumption,List.length_eq_one_iff.1 a.1.1,a.1.2,a.2⟩)))
 split at a
 ·simp only[Bool.and_eq_true,decide_eq_true_eq]at a
  exact .inr (.inr (.inr (.inr (.inl ⟨by assumption,List.length_eq_one_iff.1 a.1.1,a.1.2.1,a.1.2.2,a.2⟩))))
 split at a
 ·simp only[Bool.and_eq_true,decide_eq_true_eq]at a
  exact .inr (.inr (.inr (.inr (.inr ⟨by assumption,List.eq_nil_of_length_eq_zero a.1.1,a.1.2.1,a.1.2.2,a.2⟩))))
 · cases a
theorem gok_repT {k:Nat} {x:Re} {l h:Int} (c:gok k x=true) (a:counted l h=true):gok k (repT x l h)=true:=by
 unfold repT gok;simp only[Bool.and_eq_true];refine⟨⟨?_,by simpa using a,by rw[if_neg (by omega)]⟩,Wg (fun t b=>by obtain rfl:=List.mem_singleton.1 b;exact c)⟩;simp[shaped,Rq]
theorem gok_cat {k:Nat} {args:List Re} (a:2<=args.length) (b:∀t∈args,gok k t=true):gok k (.mk 3 noP 0 0 0 args)=true:=by
 unfold gok;simp only[Bool.and_eq_true];refine⟨⟨?_,by rw[if_neg (by omega)],by rw[if_neg (by omega)]⟩,Wg b⟩;simp[shaped,Rq,a]
theorem Dw {l h:Int} (a:counted l h=true):0<=l/\l<=64/\(h= -1\/l<=h/\h<=64):=of_decide_eq_true a
theorem Pg {l h:Int}:simple l h=true↔(l=0/\h=1\/l<=1/\h= -1):=by unfold simple;exact decide_eq_true_iff
theorem Lq {l h:Int} (a:simple l h=false):¬(l=0/\h=1\/l<=1/\h= -1):=fun e=>by rw[Pg.2 e]at a;cases a
theorem gok_repeated {k:Nat} {x:Re} {l h:Int} (b:gok k x=true) (c:counted l h=true) (e:simple l h=false):gok k (repeated x l h)=true:=by
 have d:=Dw c;have g:=Lq e;unfold repeated;split
 · simp[gok,shaped,Rq,gokL]
 split
 · exact b
 split
 ·refine gok_cat (by simp;omega) fun t a=>?_
  rcases List.mem_append.1 a with a | a
  ·rw[List.eq_of_mem_replicate a]
   exact b
  ·obtain rfl:=List.mem_singleton.1 a
   exact gok_repT b (by decide)
 ·refine gok_cat (by simp;omega) fun t a=>?_
  rcases List.mem_append.1 a with a | a
  ·rw[List.eq_of_mem_replicate a]
   exact b
  ·rw[List.eq_of_mem_replicate a]
   exact gok_repT b (by decide)
theorem Yr {x:Re} {l h:Int} (d:counted l h=true) (i:simple l h=false):(size (repeated x l h):Int)=weight (size x) l h:=by
 have g:=Dw d;have j:=Lq i;obtain⟨m,rfl⟩:∃m:Nat,l=m:=⟨l.toNat,by omega⟩;unfold repeated weight;rw[if_neg (by omega:¬((m:Int)=0/\(h=1\/h= -1)\/(m:Int)=1/\h= -1))];by_cases h0:h=0
 ·rw[if_pos h0,if_pos h0]
  simp[size,sizes]
 rw[if_neg h0,if_neg h0];by_cases h1:(m:Int)=1/\h=1
 · rw[if_pos h1,if_pos h1]
 rw[if_neg h1,if_neg h1];by_cases hm:h= -1
 ·rw[if_pos hm,if_neg (by omega),if_pos hm,size,En,Fr]
  have e:((m:Int).toNat-1)=m-1:=by omega
  rw[e];obtain⟨q,rfl⟩:∃q,m=q+1:=⟨m-1,by omega⟩;simp only[repT,size,sizes,Nat.add_sub_cancel]
  push_cast
  rw[Int.add_mul];omega
 ·rw[if_neg hm]
  obtain⟨q,rfl⟩:∃q:Nat,h=(m:Int)+q:=⟨(h-m).toNat,by omega⟩;have a:(m:Int).toNat=m:=by omega
  have b:((m:Int)+q-m).toNat=q:=by omega
  rw[size,En,Fr,Fr,a,b];by_cases hq:q=0
  ·subst hq
   rw[if_pos (by omega)]
   push_cast
   simp[repT,size,sizes]
  ·rw[if_neg (by omega),if_neg hm]
   have c:((m:Int)+q-m)=q:=by omega
   rw[c];simp only[repT,size,sizes,Nat.add_zero]
   push_cast
   rw[Int.add_comm 1 (size x:Int)];omega
theorem Gb (l:List Re):(Aw l).length=l.length:=by rw[Lc,List.length_map]
theorem Ib {o:Int} {s:Nat->Bool} {l h g:Int} {args:List Re} (a:o≠5):Ae (.mk o s l h g args)=.mk o s l h g (Aw args):=by
 unfold Ae;cases Aw args with
 | nil=>rfl
 | cons x r=>simp[a]
theorem Nk {s:Nat->Bool} {l h g:Int} {x:Re}:Ae (.mk 5 s l h g [x])=if simple l h=false then repeated (Ae x) l h else .mk 5 s l h g [Ae x]:=by
 rw[Ae,Aw,Aw];simp
mutual
theorem Iq (k:Nat):∀e,gok k e=true->gok k (Ae e)=true
 | .mk o s l h g args,he=>by
   obtain⟨h1,h2,h3,h4⟩:=He he;have ih:=Sy k args h4;by_cases h5:o=5
   ·subst h5
    obtain⟨x,rfl⟩:∃x,args= [x]:=by
     rcases Ek h1 with h | h | h | h | h | h
     · omega
     · omega
     · omega
     · exact h.2.1
     · omega
     · omega
    have hx:gok k (Ae x)=true:=by
     rw[Aw,Aw]at ih;exact Bk ih (by simp)
    rw[Nk];split
    · exact gok_repeated hx (h2 rfl) (by assumption)
    ·unfold gok
     simp only[Bool.and_eq_true];refine⟨⟨?_,by simpa using h2 rfl,by rw[if_neg (by omega)]⟩,by rw[Aw,Aw]at ih;exact ih⟩;unfold shaped at h1 ⊢;simpa using h1
   ·rw[Ib h5]
    unfold gok;simp only[Bool.and_eq_true];refine⟨⟨?_,by rw[if_neg h5],?_⟩,ih⟩
    ·unfold shaped at h1 ⊢
     simp only[Gb]at h1 ⊢;exact h1
    ·split
     · exact decide_eq_true (h3 (by assumption))
     · rfl
theorem Sy (k:Nat):∀l,gokL k l=true->gokL k (Aw l)=true
 | [],_=>by unfold Aw gokL;rfl
 | x::r,h=>by
   unfold gokL at h;rw[Bool.and_eq_true]at h;unfold Aw gokL;rw[Iq k x h.1,Sy k r h.2];rfl
end
mutual
theorem Gh (k:Nat):∀e,gok k e=true->(size (Ae e):Int)=grown e
 | .mk o s l h g args,he=>by
   obtain⟨h1,h2,h3,h4⟩:=He he;have ih:=Qo k args h4;by_cases h5:o=5
   ·subst h5
    obtain⟨x,rfl⟩:∃x,args= [x]:=by
     rcases Ek h1 with h | h | h | h | h | h
     · omega
     · omega
     · omega
     · exact h.2.1
     · omega
     · omega
    rw[Nk,grown,if_pos rfl];rw[Aw,Aw,sizes,sizes,Nat.add_zero]at ih;rw[<- ih];split
    · exact Yr (h2 rfl) (by assumption)
    ·rename_i hs
     have hs':=Pg.1 (by simpa using hs);have hc':=Dw (h2 rfl);unfold weight;rw[if_pos (by omega)];simp only[size,sizes]
     push_cast
     omega
   ·rw[Ib h5,grown,if_neg h5,size,<-ih]
    push_cast
    omega
theorem Qo (k:Nat):∀l,gokL k l=true->(sizes (Aw l):Int)=growns l
 | [],_=>by unfold Aw sizes growns;rfl
 | x::r,h=>by
   unfold gokL at h;rw[Bool.and_eq_true]at h;unfold Aw sizes growns;rw[<- Gh k x h.1,<-Qo k r h.2]
   push_cast
   rfl
end
mutual
theorem Cf (k:Nat):∀e,gok k e=true->Ah e+2<=3*size e
 | .mk o s l h g args,he=>by
   obtain⟨h1,h2,h3,h4⟩:=He he;have ih:=Ji k args h4;unfold Ah size;split
   · omega
   split
   · omega
   split
   ·obtain⟨x,rfl⟩:∃x,args= [x]:=by
     rcases Ek h1 with h | h | h | h | h | h
     · omega
     · omega
     · omega
     · exact h.2.1
     · omega
     · omega
    simp only[List.length_singleton]at ih;split
    · omega
    · split <;> omega
   · omega
theorem Ji (k:Nat):∀l,gokL k l=true->Ak l+2*l.length<=3*sizes l
 | [],_=>by unfold Ak sizes;simp
 | x::r,h=>by
   unfold gokL at h;rw[Bool.and_eq_true]at h;have h1:=Cf k x h.1;have h2:=Ji k r h.2;unfold Ak sizes;rw[List.length_cons];omega
end
end MatchMath
namespace ReMem
open Go Go.RowKit MatchMath
theorem Zs:(Tryz.prog.info? 130).map (fun i=>(i.zero,i.size,i.bytes))=some (some (.agg #[.int .i64 0,.int .u64 0,.int .u64 0,.int .u64 0,.int .u64 0,.int .i64 0,.int .i64 0]),7,56):=by kernel_rfl
theorem int_info':(Tryz.prog.info? 3).map (fun i=>(i.zero,i.size,i.bytes))=some (some (.int .i64 0),1,8):=by kernel_rfl
def IRow (w:World) (base:Nat) (v:Value) (n:Nat):Prop:=∃xs,Own.Row w base 130 7 v n xs
theorem IRow.nil (w:World) (base:Nat):IRow w base (.slice none 0 0) 0:=⟨[],Own.Row.nil _ _ _ _⟩
theorem IRow.form {w:World} {base:Nat} {v:Value} {n:Nat} (h:IRow w base v n):∃a c,v=.slice a n c:=h.elim fun _ h=>h.form
theorem IRow.stays {w a:World} {base:Nat} {v:Value} {n:Nat} (h:IRow w base v n) (b:qw w a):IRow a base v n:=h.elim fun xs h=>⟨xs,h.below b⟩
theorem IRow.mono {w:World} {base a:Nat} {v:Value} {n:Nat} (h:IRow w base v n) (b:a<=base):IRow w a v n:=h.elim fun xs h=>⟨xs,h.mono b⟩
theorem IRow.chg {C:Nat->Prop} {w a:World} {base:Nat} {v:Value} {n:Nat} (h:IRow w base v n) (b:Chg C w a) (c:∀k,v.ownBlock=some k->¬C k):IRow a base v n:=h.elim fun xs h=>⟨xs,Row.chg h b c⟩
theorem IRow.lt {w:World} {base:Nat} {v:Value} {n:Nat} (h:IRow w base v n):∀k,v.ownBlock=some k->base<=k/\k<w.heap.size:=h.elim fun _ h=>h.lt
theorem Fl {w:World} {base:Nat} {e:TypeId} {size:Nat} {v:Value} {n:Nat} {xs:List Value} (h:Own.Row w base e size v n xs):∀k,v.ownBlock=some k->∃cur fz,w.heap[k]? =some (.cells cur e fz):=by
 intro k a;rcases h.2 with ⟨rfl,_⟩ | ⟨g,b,cur,fz,rfl,d,c,_⟩
 · simp[Value.ownBlock]at a
 ·simp[Value.ownBlock]at a
  subst a;exact⟨cur,fz,c⟩
theorem row_apart {w:World} {i j:Nat} {c d:TypeId} {q r:Nat} {g h:Value} {n1 p:Nat} {t u:List Value} (m:Own.Row w i c q g n1 t) (n:Own.Row w j d r h p u) (b:c≠d):∀k,g.ownBlock=some k->¬some k=h.ownBlock:=by
 intro k o e;obtain⟨c1,x,l⟩:=Fl m k o;obtain⟨c2,y,a⟩:=Fl n k e.symm;rw[l]at a;injection a with a;injection a with _ a _;exact b a
structure IC (B:Nat) (w w':World):Prop where
 below:Below B w w'
 keep:∀(k:Nat) (cur:Array Value) (T:TypeId) (fz:Nat×Nat),T≠130->w.heap[k]? =some (Obj.cells cur T fz)->w'.heap[k]? =w.heap[k]?
theorem IC.refl (B:Nat) (w:World):IC B w w:=⟨Below.refl _ _,fun _ _ _ _ _ _=>rfl⟩
theorem IC.trans {B:Nat} {w a b:World} (h:IC B w a) (g:IC B a b):IC B w b:=⟨h.below.trans g.below,fun k cur T fz hT hk=>(g.keep k cur T fz hT ((h.keep k cur T fz hT hk).trans hk)).trans (h.keep k cur T fz hT hk)⟩
theorem IC.of {B:Nat} {w b:World} (a:qw w b) (c:B<=w.heap.size):IC B w b:=⟨a.mono c,fun k cur T fz _ hk=>a.block k (qd hk)⟩
theorem IC.chg {B:Nat} {C:Nat->Prop} {w d:World} (c:Chg C w d) (e:B<=w.heap.size) (b:∀k,C k->B<=k/\∀(cur:Array Value) (T:TypeId) (fz:Nat×Nat),T≠130->¬w.heap[k]? =some (Obj.cells cur T fz)):IC B w d:=
 ⟨c.below e (fun k a h=>by have:=(b k h).1;omega),fun k cur T fz g a=>c.block k (qd a) (fun h=>(b k h).2 cur T fz g a)⟩
theorem row_noint {w:World} {base:Nat} {size:Nat} {v:Value} {n:Nat} {xs:List Value} (h:Own.Row w base 130 size v n xs):∀k,some k=v.ownBlock->base<=k/\∀(cur:Array Value) (T:TypeId) (fz:Nat×Nat),T≠130->¬w.heap[k]? =some (Obj.cells cur T fz):=fun k hk=>⟨(h.lt k hk.symm).1,fun cur T fz hT e2=>by
 obtain⟨c1,b,a⟩:=Fl h k hk.symm;rw[a]at e2;injection e2 with e2;injection e2 with _ e2 _;exact hT e2.symm⟩
theorem Cr {ops:Array Oper} {b:List Oper} {o:Oper} {a:Act} {Q:Exit->Act->World->Prop} (w:World) (g:o.guard=none) (s x:Operand)
  (q:o.op=.call {callee:=.builtin .append,args:=#[s,x],argTypes:=#[94,94]}) (base:Nat) (v:Value) (n:Nat) (t:a.eval s=v) (r:IRow w base v n)
  (news:List Value) (hl:news.length=7) (h1:∀u∈news,u.oneCell'=true) (k:Nat) (i:w.heap.size=k) (hx:a.eval x=.slice (some ⟨k,0,none⟩) 1 1) (hn:n+1<=1099511627776) (hb:base<=k)
  (h:∀e d,IRow d base e (n+1)->IC base w d->wpList Tryz.prog ops Q b (a.put o.dst e) d):wpList Tryz.prog ops Q (o::b) a (w.alloc (.cells news.toArray 130)):=by
 obtain⟨y,hi,j,l,m⟩:=info_parts Zs;obtain⟨z,c⟩:=r;refine Bg w g s x 94 q base 130 y _ 7 56 underlying94 hi j l m rfl (by decide) v n z t c news hl h1 k i hx (by unfold maxLen;omega) (by omega) hb fun e d hr p _=>?_;exact h e d ⟨_,hr⟩ (IC.chg p (by omega) (fun k i=>row_noint c k i))
def JRow (w:World) (base:Nat) (v:Value) (js:List Int) (m:Nat):Prop:=Own.Row w base 3 1 v js.length (ints js)/\∀z∈js,0<=z/\z< (m:Int)
theorem JRow.nil (w:World) (base m:Nat):JRow w base (.slice none 0 0) [] m:=⟨Own.Row.nil _ _ _ _,fun z h=>by cases h⟩
theorem JRow.up {w:World} {base:Nat} {v:Value} {a:List Int} {m b:Nat} (h:JRow w base v a m) (c:m<=b):JRow w base v a b:=⟨h.1,fun z hz=>by have:=h.2 z hz;omega⟩
theorem JRow.ic {B:Nat} {w b:World} {base:Nat} {v:Value} {a:List Int} {m:Nat} (h:JRow w base v a m) (c:IC B w b):JRow b base v a m:=⟨h.1.keep fun k hk=>by obtain⟨cur,fz,hg⟩:=Fl h.1 k hk;exact c.keep k cur _ fz (by decide) hg,h.2⟩
theorem JRow.form {w:World} {base:Nat} {v:Value} {b:List Int} {m:Nat} (h:JRow w base v b m):∃a c,v=.slice a b.length c:=h.1.form
theorem JRow.at {w:World} {base:Nat} {v:Value} {b:List Int} {m:Nat} (h:JRow w base v b m) {j:Nat} (d:j<b.length):∃(g c z:Nat),v=.slice (some ⟨g,0,none⟩) b.length c/\z<m/\w.cell? ⟨g,j,none⟩=some (.int .i64 (z:Int)):=by
 obtain⟨g,c,rfl,n,i,l,a,e⟩:=h.1.here (by omega);have o:=h.2 b[j] (List.getElem_mem d);refine⟨g,c,b[j].toNat,rfl,by omega,?_⟩;have:=a j (.int .i64 b[j]) (ints_at (List.getElem?_eq_getElem d));rw[this]
 congr 2
 omega
theorem Xw {ops:Array Oper} {b:List Oper} {o:Oper} {a:Act} {Q:Exit->Act->World->Prop} (w:World) (i:o.guard=none) (s x:Operand)
  (t:o.op=.call {callee:=.builtin .append,args:=#[s,x],argTypes:=#[46,46]}) (base:Nat) (v:Value) (d:List Int) (m:Nat) (u:a.eval s=v) (p:JRow w base v d m) (q:base<=w.heap.size)
  (z:Int) (m':Nat) (hm:m<=m') (hz:0<=z/\z< (m':Int)) (k:Nat) (hk:w.heap.size=k) (hx:a.eval x=.slice (some ⟨k,0,none⟩) 1 1) (hn:d.length+1<=1099511627776)
  (h:∀g e,JRow e base g (d++ [z]) m'->Chg (fun k=>some k=v.ownBlock) w e->wpList Tryz.prog ops Q b (a.put o.dst g) e):wpList Tryz.prog ops Q (o::b) a (w.alloc (.cells #[.int .i64 z] 3)):=by
 obtain⟨A,hi,j,l,n⟩:=info_parts int_info';refine Bg w i s x 46 t base 3 A _ 1 8 underlying46 hi j l n rfl (by decide) v d.length (ints d) u p.1 [.int .i64 z] rfl (by simp[Value.oneCell']) k hk hx (by unfold maxLen;omega) (by omega) (by omega) fun g e hr r _=>?_;refine h g e ⟨?_,fun y c=>?_⟩ r
 ·rw[Zt,List.length_append]
  exact hr
 ·rcases List.mem_append.1 c with c | c
  ·have:=p.2 y c
   omega
  ·obtain rfl:=List.mem_singleton.1 c
   exact hz
theorem ic_jumps {B:Nat} {a w i:World} {v:Value} {o:List Int} {m:Nat} (h:IC B a w) (g:JRow w a.heap.size v o m) (l:B<=a.heap.size) (d:Chg (fun k=>some k=v.ownBlock) w i):IC B a i:=
 ⟨h.below.trans (d.below (Nat.le_trans l h.below.size) (fun k c e=>by have:=(g.1.lt k e.symm).1;omega)),fun k b T fz n c=>by
  have j:=(qd c);rw[d.block k (Nat.lt_of_lt_of_le j h.below.size) (fun e=>by have:=(g.1.lt k e.symm).1;omega)];exact h.keep k b T fz n c⟩
theorem IRow.jumps {w b:World} {base c:Nat} {v a:Value} {n:Nat} {g:List Int} {m:Nat} (h:IRow w base v n) (e:JRow w c a g m) (d:Chg (fun k=>some k=a.ownBlock) w b):IRow b base v n:=
 h.elim fun i h=>⟨i,Row.chg h d (row_apart h e.1 (by decide))⟩
theorem IRow.spot {w:World} {base:Nat} {v:Value} {n:Nat} (h:IRow w base v n) {k:Nat} (I:k<n):∃g c,v=.slice (some ⟨g,0,none⟩) n c/\base<=g/\g<w.heap.size/\(∀i,i<7->∃u,w.cell? ⟨g,k*7+i,none⟩=some u)/\(∀i,i<7->w.frozen? ⟨g,k*7+i,none⟩=false)/\
  (∀(j:Nat) (u:Value),IRow (w.setCell ⟨g,j,none⟩ u) base v n/\∀(cur:Array Value) (T:TypeId) (fz:Nat×Nat),T≠130->¬w.heap[g]? =some (Obj.cells cur T fz)):=by
 obtain⟨K,a⟩:=h;obtain⟨g,c,rfl,r,q,B,b,p⟩:=a.here (by omega);refine⟨g,c,rfl,r,q,fun i hi=>?_,fun i hi=>p _ (by omega),fun j u=>⟨?_,fun cur T fz z e=>?_⟩⟩
 ·have J:=a.1
  exact⟨_,b (k*7+i) _ (List.getElem?_eq_getElem (by omega))⟩
 ·rcases a.2 with ⟨e,G⟩ | ⟨E,x,cur,fz,e,A,t,l,m,o,d,C⟩
  · omega
  ·injection e with e1 e2 e3
   injection e1 with e1;injection e1 with e1;subst e1 e3;refine⟨(cur.setIfInBounds j u).toList.take (n*7),?_,.inr ⟨g,c,cur.setIfInBounds j u,fz,rfl,r,?_,l,m,o,by simpa using d,rfl⟩⟩
   ·simp[d]
    omega
   · rw[setCell_eq_setRow w g _ _ _ _ _ t,setRow_heap w g _ _ _ _ t]
 ·obtain⟨c1,D,y⟩:=Fl a g rfl
  rw[y]at e;injection e with e;injection e with _ e _;exact z e.symm
theorem IRow.spot' {w:World} {base g c:Nat} {n:Nat} (h:IRow w base (.slice (some ⟨g,0,none⟩) n c) n) {k:Nat} (a:k<n):base<=g/\g<w.heap.size/\(∀i,i<7->∃u,w.cell? ⟨g,k*7+i,none⟩=some u)/\(∀i,i<7->w.frozen? ⟨g,k*7+i,none⟩=false)/\
  (∀(j:Nat) (u:Value),IRow (w.setCell ⟨g,j,none⟩ u) base (.slice (some ⟨g,0,none⟩) n c) n)/\(∀(j:Nat) (u:Value),IC base w (w.setCell ⟨g,j,none⟩ u)):=by
 obtain⟨q,p,e,b,l,m,o,d⟩:=h.spot a;injection e with e1 e2 e3;injection e1 with e1;injection e1 with e1;subst e1;exact⟨b,l,m,o,fun j u=>(d j u).1,fun j u=>IC.chg (Chg.setCell w g j u) (by omega) (fun k a=>by rw[show k=g from a];exact⟨b,(d j u).2⟩)⟩
theorem JRow.at' {w:World} {base g c:Nat} {a:List Int} {n m:Nat} (h:JRow w base (.slice (some ⟨g,0,none⟩) n c) a m) (l:a.length=n) {j:Nat} (i:j<n):∃z:Nat,z<m/\w.cell? ⟨g,j,none⟩=some (.int .i64 (z:Int)):=by
 subst l;obtain⟨p,o,z,e,b,d⟩:=h.at i;injection e with e1 e2 e3;injection e1 with e1;injection e1 with e1;subst e1;exact⟨z,b,d⟩
end ReMem
namespace SortMath
section
variable {α:Type} {gt:α->α->Bool}
structure Weak (gt:α->α->Bool):Prop where
 asym:∀a b,gt a b=true->gt b a=false
 neg:∀a b c,gt a c=true->gt a b=true\/gt b c=true
def Srt (gt:α->α->Bool) (l:List α):Prop:=l.Pairwise fun a b=>gt a b=false
def ins (gt:α->α->Bool) (x:α):List α->List α
 | []=> [x]
 | y::r=>if gt y x then x::y::r else y::ins gt x r
def Ao (gt:α->α->Bool) (s l:List α):List α:=l.foldl (fun s x=>ins gt x s) s
def isort (gt:α->α->Bool) (l:List α):List α:=Ao gt [] l
theorem Jl (s l:List α) (x:α):Ao gt s (l++ [x])=ins gt x (Ao gt s l):=by simp[Ao]
theorem Fj (s l m:List α):Ao gt s (l++m)=Ao gt (Ao gt s l) m:=by simp[Ao]
theorem Bj (s l:List α) (x:α):Ao gt s (x::l)=Ao gt (ins gt x s) l:=rfl
theorem mem_ins (x y:α):∀(l:List α),y∈ins gt x l↔y=x\/y∈l
 | []=>by simp[ins]
 |z::r=>by
  unfold ins;split
  · simp
  ·simp only[List.mem_cons,mem_ins x y r]
   constructor
   ·rintro (h | h | h)
    · exact .inr (.inl h)
    · exact .inl h
    · exact .inr (.inr h)
   ·rintro (h | h | h)
    · exact .inr (.inl h)
    · exact .inl h
    · exact .inr (.inr h)
theorem Lh (x:α):∀(l:List α),(ins gt x l).length=l.length+1
 | []=>rfl
 |z::r=>by
  unfold ins;split
  · rfl
  · simp[Lh x r]
theorem Weak.trans (W:Weak gt) {a b c:α} (e:gt a b=false) (g:gt b c=false):gt a c=false:=by
 cases h:gt a c with
 | false=>rfl
 |true=>
  rcases W.neg a b c h with d | d
  · rw[e]at d;cases d
  · rw[g]at d;cases d
theorem Weak.far (W:Weak gt) {a b c:α} (d:gt b a=true) (e:gt b c=false):gt c a=true:=by
 cases h:gt c a with
 | true=>rfl
 |false=>
  have:=W.trans e h;rw[d]at this;cases this
theorem srt_ins (W:Weak gt) (x:α):∀(l:List α),Srt gt l->Srt gt (ins gt x l)
 | [],_=>by simp[ins,Srt]
 |y::r,h=>by
  have h':=List.pairwise_cons.1 h;unfold ins;split
  ·rename_i a
   refine List.pairwise_cons.2 ⟨fun z b=>?_,h⟩;rcases List.mem_cons.1 b with rfl | b
   · exact W.asym _ _ a
   · exact W.trans (W.asym _ _ a) (h'.1 z b)
  ·rename_i a
   refine List.pairwise_cons.2 ⟨fun z b=>?_,srt_ins W x r h'.2⟩;rcases (mem_ins x z r).1 b with rfl | b
   · simpa using a
   · exact h'.1 z b
theorem Xh (W:Weak gt):∀(l s:List α),Srt gt s->Srt gt (Ao gt s l)
 | [],_,h=>h
 | x::l,s,h=>Xh W l _ (srt_ins W x s h)
theorem Gk (W:Weak gt) (l:List α):Srt gt (isort gt l):=Xh W l [] List.Pairwise.nil
theorem ins_comm (W:Weak gt) {x y:α} (a:gt y x=true):∀(l:List α),ins gt y (ins gt x l)=ins gt x (ins gt y l)
 | []=>by
   have:=W.asym _ _ a;simp[ins,a,this]
 | z::r=>by
   have c:=W.asym _ _ a;by_cases hzx:gt z x=true
   ·by_cases b:gt z y=true
    · simp[ins,hzx,b,c,a]
    · simp[ins,hzx,b,c]
   ·have b:gt z y=false:=by
     cases h:gt z y with
     | false=>rfl
     |true=>
      rcases W.neg z x y h with d | d
      · exact absurd d hzx
      · rw[c]at d;cases d
    simp[ins,hzx,b,ins_comm W a r]
theorem Lu (W:Weak gt) {x:α}:∀(v s:List α),(∀y∈v,gt y x=true)->Ao gt (ins gt x s) v=ins gt x (Ao gt s v)
 | [],_,_=>rfl
 |y::v,s,h=>by
  rw[Bj,Bj,ins_comm W (h y (by simp)),Lu W v _ fun z hz=>h z (by simp[hz])]
theorem Zr (x:α):∀(l:List α),∃u v,l=u++v/\ins gt x l=u++x::v/\(∀y∈v.head?,gt y x=true)
 | []=>⟨[],[],rfl,rfl,by simp⟩
 |y::r=>by
  unfold ins;split
  ·rename_i h
   exact⟨[],y::r,rfl,rfl,by simpa using h⟩
  ·obtain⟨u,v,h1,h2,h3⟩:=Zr x r
   exact⟨y::u,v,by rw[h1];rfl,by rw[h2];rfl,h3⟩
theorem Qc (W:Weak gt) (s:List α):∀(l:List α),Ao gt s (isort gt l)=Ao gt s l:=by
 intro l;generalize hn:l.length=n
 induction n generalizing l with
 |zero=>
  have:l= []:=List.eq_nil_of_length_eq_zero hn;subst this;rfl
 |succ n ih=>
  obtain⟨m,x,rfl⟩:∃m x,l=m++ [x]:=by
   refine⟨l.dropLast,l.getLast (by intro h;rw[h]at hn;cases hn),?_⟩;exact (List.dropLast_concat_getLast _).symm
  have o:m.length=n:=by simpa using hn
  have e:isort gt (m++ [x])=ins gt x (isort gt m):=Jl [] m x;rw[e,Jl,<-ih m o];obtain⟨u,v,b,g,i⟩:=Zr (gt:=gt) x (isort gt m);have c:=Gk W m;rw[b]at c;have p:∀y∈v,gt y x=true:=by
   cases v with
   | nil=>intro y a;cases a
   |cons z v=>
    have d:gt z x=true:=i z (by simp);have j:=(List.pairwise_cons.1 (List.pairwise_append.1 c).2.1).1;intro y a;rcases List.mem_cons.1 a with rfl | a
    · exact d
    · exact W.far d (j y a)
  rw[g,Fj,Bj,Lu W v _ p,<-Fj,<-b]
theorem Id (x:α):∀(b a:List α),(∀y∈b,gt x y=false)->Ao gt (x::a) b=x::Ao gt a b
 | [],_,_=>rfl
 |y::b,a,h=>by
  rw[Bj,Bj];have:ins gt y (x::a)=x::ins gt y a:=by simp[ins,h y (by simp)]
  rw[this];exact Id x b _ fun z c=>h z (by simp[c])
end
end SortMath
namespace SortMath
section
variable {α:Type} {gt:α->α->Bool}
theorem Wj (x:α) (B:List α) (a:∀u∈B.head?,gt u x=true):∀(A:List α),ins gt x (A++B)=ins gt x A++B
 | []=>by
   cases B with
   | nil=>rfl
   | cons u r=>simp[ins,a u (by simp)]
 | y::r=>by
   simp only[List.cons_append,ins];split
   · rfl
   · rw[Wj x B a r];rfl
theorem Hf (x:α) (B:List α):∀(A:List α),(∀w∈A,gt w x=false)->ins gt x (A++B)=A++ins gt x B
 | [],_=>rfl
 |y::r,h=>by
  simp only[List.cons_append,ins,h y (by simp),Bool.false_eq_true,if_false];rw[Hf x B r fun w hw=>h w (by simp[hw])]
theorem Qb (B:List α):∀(V A:List α),(∀v∈V,∀u∈B,gt u v=true)->Ao gt (A++B) V=Ao gt A V++B
 | [],_,_=>rfl
 |v::V,A,h=>by
  rw[Bj,Bj,Wj v B (fun u hu=>h v (by simp) u (List.mem_of_mem_head? hu)) A];exact Qb B V _ fun w hw=>h w (by simp[hw])
theorem Of (A:List α):∀(V B:List α),(∀w∈A,∀v∈V,gt w v=false)->Ao gt (A++B) V=A++Ao gt B V
 | [],_,_=>rfl
 |v::V,B,h=>by
  rw[Bj,Bj,Hf v B A fun w hw=>h w hw v (by simp)];exact Of A V _ fun w hw u hu=>h w hw u (by simp[hu])
theorem Ge:∀(l s:List α) (x:α),x∈Ao gt s l->x∈s\/x∈l
 | [],s,x,h=>.inl h
 |y::l,s,x,h=>by
  rcases Ge l _ x h with h | h
  ·rcases (mem_ins y x s).1 h with rfl | h
   · exact .inr (by simp)
   · exact .inl h
  · exact .inr (by simp[h])
theorem Tg {U1 U2 V1 V2:List α} (d:Srt gt (V1++V2)) (b:∀u∈U1,∀v∈V2,gt u v=false) (c:∀v∈V1,∀u∈U2,gt u v=true):
  Ao gt (U1++U2) (V1++V2)=Ao gt U1 V1++Ao gt U2 V2:=by
 rw[Fj,Qb U2 V1 U1 c];refine Of _ V2 U2 fun w e v a=>?_;rcases Ge V1 U1 w e with h | h
 · exact b w h v a
 · exact (List.pairwise_append.1 d).2.2 w h v a
theorem srt_last (W:Weak gt) {U:List α} (h:Srt gt U) {l:α} (c:l∈U.getLast?) {u:α} (b:u∈U):gt u l=false:=by
 obtain⟨I,rfl⟩:∃I,U=I++ [l]:=by
  refine⟨U.dropLast,?_⟩;have a:U≠ []:=by intro e;subst e;simp at c
  rw[List.getLast?_eq_some_getLast a]at c;have:U.getLast a=l:=by simpa using c
  rw[<- this];exact (List.dropLast_concat_getLast a).symm
 rcases List.mem_append.1 b with b | b
 · exact (List.pairwise_append.1 h).2.2 u b l (by simp)
 ·obtain rfl:=List.mem_singleton.1 b
  cases hg:gt u u with
  | false=>rfl
  | true=>exact absurd (W.asym _ _ hg) (by rw[hg];decide)
theorem srt_head (W:Weak gt) {U:List α} (h:Srt gt U) {f:α} (b:f∈U.head?) {u:α} (a:u∈U):gt f u=false:=by
 cases U with
 | nil=>cases a
 |cons y r=>
  have:y=f:=by simpa using b
  subst this;rcases List.mem_cons.1 a with rfl | a
  ·cases hg:gt u u with
   | false=>rfl
   | true=>exact absurd (W.asym _ _ hg) (by rw[hg];decide)
  · exact (List.pairwise_cons.1 h).1 u a
theorem cond1 (W:Weak gt) {U1 V2:List α} (j:Srt gt U1) (l:Srt gt V2) (h:∀u∈U1.getLast?,∀v∈V2.head?,gt u v=false):∀u∈U1,∀v∈V2,gt u v=false:=by
 intro u g v i;have a:U1≠ []:=by intro e;subst e;cases g
 have b:V2≠ []:=by intro e;subst e;cases i
 have d:U1.getLast a∈U1.getLast? :=by rw[List.getLast?_eq_some_getLast a];rfl
 have c:V2.head b∈V2.head? :=by rw[List.head?_eq_some_head b];rfl
 exact W.trans (srt_last W j d g) (W.trans (h _ d _ c) (srt_head W l c i))
theorem cond2 (W:Weak gt) {V1 U2:List α} (n:Srt gt V1) (m:Srt gt U2) (h:∀v∈V1.getLast?,∀u∈U2.head?,gt u v=true):∀v∈V1,∀u∈U2,gt u v=true:=by
 intro v j u i;have a:V1≠ []:=by intro e;subst e;cases j
 have b:U2≠ []:=by intro e;subst e;cases i
 have g:V1.getLast a∈V1.getLast? :=by rw[List.getLast?_eq_some_getLast a];rfl
 have d:U2.head b∈U2.head? :=by rw[List.head?_eq_some_head b];rfl
 have l:gt u (V1.getLast a)=true:=W.far (h _ g _ d) (srt_head W m d i);rcases W.neg u v (V1.getLast a) l with c | c
 · exact c
 · rw[srt_last W n g j]at c;cases c
theorem insAll_one {x:α} {V1 V2:List α} (a:Srt gt (V1++V2)) (h:∀v∈V1,gt x v=true) (i:∀v∈V2,gt x v=false):Ao gt [x] (V1++V2)=V1++x::V2:=by
 have d:∀(V:List α),Srt gt V->Ao gt [] V=V:=by
  intro V a;have:=key0 V [] a;simpa using this
 have e:=Tg (U1:= []) (U2:= [x]) (V1:=V1) (V2:=V2) a (fun u g=>by cases g) (fun v j u g=>by
  obtain rfl:=List.mem_singleton.1 g;exact h v j)
 rw[List.nil_append]at e;rw[e,d V1 (List.pairwise_append.1 a).1]
 congr 1
 have:=Id x V2 [] i;rw[this,d V2 (List.pairwise_append.1 a).2.1]
 where
 key0:∀(b s:List α),Srt gt (s++b)->Ao gt s b=s++b
  | [],s,_=>by simp[Ao]
  |y::b,s,hs=>by
   have l:ins gt y s=s++ [y]:=by
    have c:∀z∈s,gt z y=false:=fun z m=>(List.pairwise_append.1 hs).2.2 z m y (by simp);have:=Hf y [] s c;rw[List.append_nil]at this;rw[this];rfl
   rw[Bj,l,key0 b (s++ [y]) (by simpa using hs)];simp
end
end SortMath
namespace SortMath
section
variable {α:Type} (gt:α->α->Bool)
def blocks (b:Nat):Nat->List α->List α
 | 0,_=> []
 | n+1,l=>if l= [] then [] else isort gt (l.take b)++blocks b n (l.drop b)
def As (b:Nat) (l:List α):List α:=blocks gt b l.length l
variable {gt}
theorem Nz {b:Nat} (a:0<b):∀(n m:Nat) (l:List α),l.length<=n->l.length<=m->blocks gt b n l=blocks gt b m l
 |0,m,l,h,_=>by
  have:l= []:=List.eq_nil_of_length_eq_zero (by omega);subst this;cases m <;> simp[blocks]
 |n+1,0,l,_,h=>by
  have:l= []:=List.eq_nil_of_length_eq_zero (by omega);subst this;simp[blocks]
 |n+1,m+1,l,h1,h2=>by
  unfold blocks;by_cases hl:l= []
  · rw[if_pos hl,if_pos hl]
  ·have:0<l.length:=List.length_pos_iff.2 hl
   rw[if_neg hl,if_neg hl,Nz a n m (l.drop b) (by rw[List.length_drop];omega) (by rw[List.length_drop];omega)]
theorem Kv (b:Nat):As gt b []= []:=rfl
theorem Eq {b:Nat} (c:0<b) {l:List α} (a:l≠ []):As gt b l=isort gt (l.take b)++As gt b (l.drop b):=by
 have e:0<l.length:=List.length_pos_iff.2 a;obtain⟨n,d⟩:∃n,l.length=n+1:=⟨l.length-1,by omega⟩;unfold As;rw[d,blocks,if_neg a,Nz c n (l.drop b).length (l.drop b) (by rw[List.length_drop];omega) (Nat.le_refl _)]
theorem Eu {b:Nat} (a:0<b) {l:List α} (h:l.length<=b):As gt b l=isort gt l:=by
 by_cases hl:l= []
 · subst hl;rfl
 · rw[Eq a hl,List.take_of_length_le h,List.drop_eq_nil_of_le h,Kv,List.append_nil]
theorem Lw {b:Nat} (c:0<b):∀(n:Nat) (l:List α),l.length<=n->(As gt b l).length=l.length
 |0,l,h=>by
  have:l= []:=List.eq_nil_of_length_eq_zero (by omega);subst this;rfl
 |n+1,l,h=>by
  by_cases hl:l= []
  · subst hl;rfl
  ·have d:0<l.length:=List.length_pos_iff.2 hl
   rw[Eq c hl,List.length_append,Lw c n (l.drop b) (by rw[List.length_drop];omega),List.length_drop];have:(isort gt (l.take b)).length=(l.take b).length:=by
    have a:∀(l s:List α),(Ao gt s l).length=s.length+l.length:=by
     intro l
     induction l with
     | nil=>intro s;simp[Ao]
     | cons x l ih=>intro s;rw[Bj,ih,Lh];simp;omega
    show (Ao gt [] _).length=_;rw[a];simp
   rw[this,List.length_take];omega
theorem Hx {b:Nat} (c:0<b):∀(q:Nat) (l m:List α),l.length=q*b->As gt b (l++m)=As gt b l++As gt b m
 |0,l,m,h=>by
  have:l= []:=List.eq_nil_of_length_eq_zero (by omega);subst this;rfl
 |q+1,l,m,h=>by
  have a:b<=l.length:=by rw[h,Nat.add_mul];omega
  have d:l≠ []:=by intro e;subst e;simp at a;omega
  rw[Eq c (by simp[d]),Eq c d,List.take_append_of_le_length a,List.drop_append_of_le_length a,
   Hx c q (l.drop b) m (by rw[List.length_drop,h,Nat.add_mul];omega),List.append_assoc]
theorem merge_two (W:Weak gt) (l:List α) (b:Nat):Ao gt (isort gt (l.take b)) (isort gt (l.drop b))=isort gt l:=by
 rw[Qc W];show Ao gt (Ao gt [] _) _=Ao gt [] l;rw[<- Fj,List.take_append_drop]
end
end SortMath
namespace SortMath
section
variable {α:Type} {gt:α->α->Bool}
theorem ins_at (x:α):∀(k:Nat) (s:List α),k<=s.length->(∀y∈s.take k,gt y x=false)->(∀y∈s.drop k,gt y x=true)->ins gt x s=s.take k++x::s.drop k
 | 0,[],_,_,_=>rfl
 |0,y::r,_,_,h2=>by
  have:gt y x=true:=h2 y (by simp);simp[ins,this]
 | k+1,[],hk,_,_=>by simp at hk
 |k+1,y::r,hk,h1,h2=>by
  have b:gt y x=false:=h1 y (by simp);have:=ins_at x k r (by simpa using hk) (fun z a=>h1 z (by simp[a])) (fun z a=>h2 z (by simpa using a));simp[ins,b,this]
theorem srt_at {s:List α} (h:Srt gt s) {i j:Nat} (c:i<j) {a b:α} (d:s[i]? =some a) (e:s[j]? =some b):gt a b=false:=by
 obtain⟨hi,rfl⟩:=List.getElem?_eq_some_iff.1 d;obtain⟨g,rfl⟩:=List.getElem?_eq_some_iff.1 e;exact (List.pairwise_iff_getElem.1 h) i j hi g c
theorem gt_irr (W:Weak gt) (a:α):gt a a=false:=by
 cases h:gt a a with
 | false=>rfl
 | true=>have:=W.asym _ _ h;rw[h]at this;cases this
theorem Us (W:Weak gt) {s:List α} (h:Srt gt s) {i j:Nat} (g:i<=j) {a b:α} (d:s[i]? =some a) (c:s[j]? =some b):gt a b=false:=by
 by_cases e:i=j
 ·subst e
  rw[d]at c;cases c
  exact gt_irr W a
 · exact srt_at h (by omega) d c
theorem Lv (W:Weak gt) {s:List α} (h:Srt gt s) {x:α} {k:Nat} (g:k<=s.length) (d:k=0\/∃y,s[k-1]? =some y/\gt y x=false) (e:∀y∈s.drop k,gt y x=true):ins gt x s=s.take k++x::s.drop k:=by
 refine ins_at x k s g (fun y c=>?_) e;rcases d with rfl | ⟨z,i,b⟩
 · simp at c
 ·obtain⟨j,a⟩:=List.mem_iff_getElem?.1 c
  rw[List.getElem?_take]at a;split at a
  · exact W.trans (Us W h (by omega) a i) b
  · cases a
theorem Ug (W:Weak gt) {s:List α} (c:Srt gt s) {x:α} {k:Nat} (h:k<=s.length) (e:k=0\/∃y,s[k-1]? =some y/\gt y x=false) (g:k=s.length\/∃y,s[k]? =some y/\gt y x=true):ins gt x s=s.take k++x::s.drop k:=by
 refine Lv W c h e fun y d=>?_;rcases g with rfl | ⟨z,i,a⟩
 · simp at d
 ·obtain⟨j,b⟩:=List.mem_iff_getElem?.1 d
  rw[List.getElem?_drop]at b;exact W.far a (Us W c (by omega) i b)
theorem one_at (W:Weak gt) {s:List α} (d:Srt gt s) {x:α} {k:Nat} (m:k<=s.length) (i:k=0\/∃y,s[k-1]? =some y/\gt x y=true) (l:k=s.length\/∃y,s[k]? =some y/\gt x y=false):Ao gt [x] s=s.take k++x::s.drop k:=by
 have e:=insAll_one (gt:=gt) (x:=x) (V1:=s.take k) (V2:=s.drop k) (by rw[List.take_append_drop];exact d) (fun v c=>?_) (fun v c=>?_)
 ·rw[List.take_append_drop]at e
  exact e
 ·rcases i with rfl | ⟨z,g,b⟩
  · simp at c
  ·obtain⟨j,a⟩:=List.mem_iff_getElem?.1 c
   rw[List.getElem?_take]at a;split at a
   ·rcases W.neg x v z b with h | h
    · exact h
    · rw[Us W d (by omega) a g]at h;cases h
   · cases a
 ·rcases l with rfl | ⟨z,g,b⟩
  · simp at c
  ·obtain⟨j,a⟩:=List.mem_iff_getElem?.1 c
   rw[List.getElem?_drop]at a;exact W.trans b (Us W d (by omega) g a)
theorem Hk:∀(l s:List α),(Ao gt s l).length=s.length+l.length
 | [],s=>by simp[Ao]
 | x::l,s=>by rw[Bj,Hk l,Lh];simp;omega
theorem Cm (l:List α):(isort gt l).length=l.length:=by
 show (Ao gt [] l).length=_;rw[Hk];simp
theorem Zv (W:Weak gt) {l:List α} (h:Srt gt l):isort gt l=l:=by
 have c:∀(b s:List α),Srt gt (s++b)->Ao gt s b=s++b:=by
  intro b
  induction b with
  | nil=>intro s _;simp[Ao]
  |cons y b ih=>
   intro s d;have a:∀z∈s,gt z y=false:=fun z g=>(List.pairwise_append.1 d).2.2 z g y (by simp);have:=Hf (gt:=gt) y [] s a;rw[List.append_nil]at this;rw[Bj,this];have e:ins gt y []= [y]:=rfl;rw[e,ih (s++ [y]) (by simpa using d)];simp
 have:=c l [] (by simpa using h);rw[List.nil_append]at this;exact this
theorem sym_split (W:Weak gt) {A B:List α} (r:Srt gt A) (t:Srt gt B) {i j:Nat} (hi:i<=A.length) (z:j<=B.length)
  (p:i=0\/j=B.length\/∃x y,A[i-1]? =some x/\B[j]? =some y/\gt x y=false)
  (q:i=A.length\/j=0\/∃x y,A[i]? =some x/\B[j-1]? =some y/\gt x y=true):
  Ao gt A B=Ao gt (A.take i) (B.take j)++Ao gt (A.drop i) (B.drop j):=by
 have o:=r;have d:=t;rw[<- List.take_append_drop i A]at o;rw[<- List.take_append_drop j B]at d;have e:=Tg (gt:=gt) (U1:=A.take i) (U2:=A.drop i) (V1:=B.take j) (V2:=B.drop j) d
  (cond1 W (List.pairwise_append.1 o).1 (List.pairwise_append.1 d).2.1 fun u a v b=>?_)
  (cond2x (List.pairwise_append.1 d).1 (List.pairwise_append.1 o).2.1 fun v b u a=>?_)
 ·rw[List.take_append_drop,List.take_append_drop]at e
  exact e
 ·rcases p with rfl | rfl | ⟨x,y,m,n,c⟩
  · simp at a
  · simp at b
  ·have g:u=x:=by
    rw[List.getLast?_eq_getElem?,List.length_take,Nat.min_eq_left hi,List.getElem?_take]at a;split at a
    · rw[m]at a;simpa using a.symm
    · cases a
   have l:v=y:=by
    rw[List.head?_eq_getElem?,List.getElem?_drop,Nat.add_zero,n]at b;simpa using b.symm
   rw[g,l];exact c
 ·rcases q with rfl | rfl | ⟨x,y,m,n,c⟩
  · simp at a
  · simp at b
  ·have g:u=x:=by
    rw[List.head?_eq_getElem?,List.getElem?_drop,Nat.add_zero,m]at a;simpa using a.symm
   have l:v=y:=by
    rw[List.getLast?_eq_getElem?,List.length_take,Nat.min_eq_left z,List.getElem?_take]at b;split at b
    · rw[n]at b;simpa using b.symm
    · cases b
   rw[g,l];exact c
 where
 cond2x {V1 U2:List α} (hV:Srt gt V1) (hU:Srt gt U2) (h:∀v∈V1.getLast?,∀u∈U2.head?,gt u v=true):∀v∈V1,∀u∈U2,gt u v=true:=cond2 W hV hU h
theorem ins_map {β:Type} {c:β->β->Bool} (f:β->α) (d:∀a b,gt (f a) (f b)=c a b) (x:β):∀(l:List β),ins gt (f x) (l.map f)=(ins c x l).map f
 | []=>rfl
 |y::r=>by
  simp only[List.map_cons,ins,d];split
  · rfl
  · rw[List.map_cons,ins_map f d x r]
theorem Wi {β:Type} {c:β->β->Bool} (f:β->α) (d:∀a b,gt (f a) (f b)=c a b):∀(l s:List β),Ao gt (s.map f) (l.map f)=(Ao c s l).map f
 | [],_=>rfl
 |x::l,s=>by
  rw[List.map_cons,Bj,Bj,ins_map f d,Wi f d l]
theorem Nn {β:Type} {c:β->β->Bool} (f:β->α) (d:∀a b,gt (f a) (f b)=c a b) (l:List β):isort gt (l.map f)=(isort c l).map f:=Wi f d l []
end
end SortMath
namespace MatchMath
open SortMath
def gtP (a b:Parse):Bool:=decide (a.1<b.1)
theorem Vh:∀(n:Nat) (l:List Parse) (x:Parse),(x.1<=n->Br n (l++ [x])=ins gtP x (Br n l))/\(n<x.1->Br n (l++ [x])=Br n l)
 |0,l,x=>by
  constructor
  ·intro hx
   have h0:x.1=0:=by omega
   unfold Br;rw[List.filter_append];have:=Hf (gt:=gtP) x [] (l.filter fun p=>p.1==0) (fun w b=>by
    have:=(List.mem_filter.1 b).2;simp[gtP]at this ⊢;omega)
   rw[List.append_nil]at this;rw[this];simp[h0,ins]
  ·intro hx
   unfold Br;rw[List.filter_append];have:¬x.1=0:=by omega
   simp[this]
 |n+1,l,x=>by
  obtain⟨c,a⟩:=Vh n l x;constructor
  ·intro hx
   rw[Br,Br,List.filter_append];rw[Hf x (Br n l) (l.filter fun p=>p.1==n+1) (fun w b=>by
    have:=(List.mem_filter.1 b).2;simp[gtP]at this ⊢;omega)]
   by_cases h:x.1=n+1
   ·rw[a (by omega)]
    have e:ins gtP x (Br n l)=x::Br n l:=by
     have:=ins_at (gt:=gtP) x 0 (Br n l) (Nat.zero_le _) (by simp) (fun y d=>by
      have:=((Km n l y).1 (by simpa using d)).2;simp[gtP];omega)
     simpa using this
    rw[e];simp[h]
   ·rw[c (by omega)]
    simp[h]
  ·intro hx
   rw[Br,Br,List.filter_append,a (by omega)];have:¬x.1=n+1:=by omega
   simp[this]
theorem Zc:∀n,Br n []= []
 | 0=>rfl
 | n+1=>by rw[Br,Zc n];rfl
theorem Tb (n:Nat) (l:List Parse) (h:∀p∈l,p.1<=n):isort gtP l=Br n l:=by
 have c:∀(k:Nat) (l:List Parse),l.length=k->(∀p∈l,p.1<=n)->isort gtP l=Br n l:=by
  intro k
  induction k with
  |zero=>
   intro l a _;have:l= []:=List.eq_nil_of_length_eq_zero a;subst this;rw[Zc];rfl
  |succ k ih=>
   intro l a d;obtain⟨m,x,rfl⟩:∃m x,l=m++ [x]:=by
    refine⟨l.dropLast,l.getLast (by intro e;rw[e]at a;cases a),?_⟩;exact (List.dropLast_concat_getLast _).symm
   have i:m.length=k:=by simpa using a
   have g:isort gtP (m++ [x])=ins gtP x (isort gtP m):=Jl [] m x;rw[g,ih m i (fun p b=>d p (by simp[b])),(Vh n m x).1 (d x (by simp))]
 exact c l.length l rfl h
end MatchMath
namespace ReMem
open Go Go.RowKit MatchMath SortMath
abbrev El:=Int×(Option Addr×Nat×Nat)
def elV (x:El):Value:=.slice x.2.1 x.2.2.1 x.2.2.2
def gtE (a b:El):Bool:=decide (a.1<b.1)
theorem Dy:Weak gtE:=⟨fun a b h=>by simp[gtE]at *;omega,fun a b c h=>by simp[gtE]at *;omega⟩
theorem upc {w W:World} {p:Addr} {u:Value} (a:qw w W) (h:w.cell? p=some u):W.cell? p=some u:=by rw[a.cell (World.block_lt_of_cell? w p h)];exact h
structure PB (w:World) (g S:Nat) (els:List El):Prop where
 blk:∃cur:Array Value,w.heap[g]? =some (.cells cur 119 (0,0))/\cur.size=S/\∀(j:Nat) (x:El),els[j]? =some x->cur[j*2]? =some (.int .i64 x.1)/\cur[j*2+1]? =some (elV x)
theorem PB.at {w:World} {g S:Nat} {a:List El} (h:PB w g S a) {j:Nat} {x:El} (i:a[j]? =some x):w.cell? ⟨g,j*2,none⟩=some (.int .i64 x.1)/\w.cell? ⟨g,j*2+1,none⟩=some (.slice x.2.1 x.2.2.1 x.2.2.2):=by
 obtain⟨c,b, -,l⟩:=h.blk;obtain⟨d,e⟩:=l j x i;exact⟨by rw[qc b];exact d,by rw[qc b];exact e⟩
theorem PB.free {w:World} {g S:Nat} {a:List El} (h:PB w g S a) (k:Nat):w.frozen? ⟨g,k,none⟩=false:=by
 obtain⟨b,c, -⟩:=h.blk;unfold World.frozen?;rw[c];simp
theorem PB.lt {w:World} {g S:Nat} {a:List El} (h:PB w g S a):g<w.heap.size:=by
 obtain⟨b,c, -⟩:=h.blk;exact (qd c)
theorem PB.keep {w c:World} {g S:Nat} {a:List El} (h:PB w g S a) (e:c.heap[g]? =w.heap[g]?):PB c g S a:=by
 obtain⟨b,d,i⟩:=h.blk;exact⟨b,e.trans d,i⟩
theorem PB.stays {w b:World} {g S:Nat} {a:List El} (h:PB w g S a) (c:qw w b):PB b g S a:=h.keep (c.block g h.lt)
theorem PB.drewN {w:World} {g S:Nat} {a:List El} (h:PB w g S a) (n:Nat):PB (w.drewN n) g S a:=h.keep rfl
theorem PB.drew {w:World} {g S:Nat} {a:List El} (h:PB w g S a):PB w.drew g S a:=h.keep rfl
theorem PB.set {w:World} {g S:Nat} {b:List El} (h:PB w g S b) (j:Nat) (x:El) (A:j<b.length):PB ((w.setCell ⟨g,j*2,none⟩ (.int .i64 x.1)).setCell ⟨g,j*2+1,none⟩ (.slice x.2.1 x.2.2.1 x.2.2.2)) g S (b.set j x):=by
 obtain⟨a,l,o,m⟩:=h.blk;have i:(w.setCell ⟨g,j*2,none⟩ (.int .i64 x.1)).heap[g]? =some (.cells (a.setIfInBounds (j*2) (.int .i64 x.1)) 119 (0,0)):=by
  rw[setCell_eq_setRow w g _ a _ _ _ l];exact setRow_heap w g a _ _ _ l
 have n:((w.setCell ⟨g,j*2,none⟩ (.int .i64 x.1)).setCell ⟨g,j*2+1,none⟩ (.slice x.2.1 x.2.2.1 x.2.2.2)).heap[g]? =some (.cells ((a.setIfInBounds (j*2) (.int .i64 x.1)).setIfInBounds (j*2+1) (.slice x.2.1 x.2.2.1 x.2.2.2)) 119 (0,0)):=by
  rw[setCell_eq_setRow _ g _ _ _ _ _ i];exact setRow_heap _ g _ _ _ _ i
 refine⟨_,n,by simp[o],fun k y d=>?_⟩;have c:k<b.length:=by
  have:=(List.getElem?_eq_some_iff.1 d).1;simpa using this
 obtain⟨r,t⟩:=m k _ (List.getElem?_eq_getElem c);have p:k*2<a.size:=(qd r);have q:k*2+1<a.size:=(qd t);rw[List.getElem?_set]at d;by_cases e:j=k
 ·subst e
  simp only[if_true,c,Option.some.injEq]at d;subst d;constructor
  · rw[Array.getElem?_setIfInBounds,if_neg (by omega),Array.getElem?_setIfInBounds,if_pos rfl,if_pos p]
  · rw[Array.getElem?_setIfInBounds,if_pos rfl,if_pos (by simpa using q)];rfl
 ·rw[if_neg e]at d
  obtain⟨u,z⟩:=m k y d;constructor
  · rw[Array.getElem?_setIfInBounds,if_neg (by omega),Array.getElem?_setIfInBounds,if_neg (by omega)];exact u
  · rw[Array.getElem?_setIfInBounds,if_neg (by omega),Array.getElem?_setIfInBounds,if_neg (by omega)];exact z
def BPost (w:World) (g S:Nat) (els:List El) (r:Ending) (w':World):Prop:=r=.returned (.tuple #[])/\PB w' g S els/\Chg (fun b=>b=g) w w'
theorem chg_drewN (C:Nat->Prop) (w:World) (n:Nat):Chg C w (w.drewN n):=⟨rfl,rfl,rfl,ql,fun _ _ _=>rfl⟩
theorem Chg.set2 (w:World) (g i j:Nat) (u v:Value):Chg (fun b=>b=g) w ((w.setCell ⟨g,i,none⟩ u).setCell ⟨g,j,none⟩ v):=(Chg.setCell w g i u).trans (Chg.setCell _ g j v) (fun _ _ h=>h)
theorem Chg.then {g:Nat} {w a c:World} (h:Chg (fun b=>b=g) w a) (k:Chg (fun b=>b=g) a c):Chg (fun b=>b=g) w c:=h.trans k (fun _ _ e=>e)
theorem PB.swap {w:World} {g S:Nat} {a:List El} (h:PB w g S a) (i j:Nat) (x xa xn xc y ya yn yc) (hi:i<a.length) (b:j<a.length):
  PB ((((w.setCell ⟨g,i*2,none⟩ (.int .i64 y)).setCell ⟨g,i*2+1,none⟩ (.slice ya yn yc)).setCell ⟨g,j*2,none⟩ (.int .i64 x)).setCell ⟨g,j*2+1,none⟩ (.slice xa xn xc)) g S ((a.set i (y,ya,yn,yc)).set j (x,xa,xn,xc)):=
 (h.set i (y,ya,yn,yc) hi).set j (x,xa,xn,xc) (by simpa using b)
theorem Chg.swap (w:World) (g a c d e:Nat) (h i j l:Value):Chg (fun b=>b=g) w ((((w.setCell ⟨g,a,none⟩ h).setCell ⟨g,c,none⟩ i).setCell ⟨g,d,none⟩ j).setCell ⟨g,e,none⟩ l).drew:=
 ((Chg.set2 w g a c h i).then (Chg.set2 _ g d e j l)).then (chg_drewN _ _ 1)
end ReMem
end Go.Proofs.YtjefcpjciogcjaaGreatDoor
