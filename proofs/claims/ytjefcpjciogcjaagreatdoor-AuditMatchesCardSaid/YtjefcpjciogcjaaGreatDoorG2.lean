/- Lemmas for the walk of the law, in 11 parts. No condition beyond what each states. -/
import Derived.Test.YtjefcpjciogcjaaGreatDoorG1
import Derived.Test.YtjefcpjciogcjaaGreatDoorG0
import Derived.Test.YtjefcpjciogcjaaGreatDoorProg
import Derived.ProofKit
import Derived.OpenShut
import Derived.Laws.StructEq
import Derived.ChangeKeysEq
import Derived.WalkKit
import Derived.Handy
import Derived.WalkLawsBesides
import Derived.Outline
import Derived.BigQuiet
import Derived.Deep.QuietTactic
import Derived.Laws.Pointers
import Derived.WalkSpells
namespace Go.Proofs.YtjefcpjciogcjaaGreatDoor
set_option maxRecDepth 100000
set_option linter.unusedVariables false
set_option maxHeartbeats 8000000
open Tryz
namespace ReMem
open Go Go.RowKit MatchMath
theorem Bg {P:Program} (w:World) {ops:Array Oper} {b:List Oper} {o:Oper} {a:Act} {Q:Exit->Act->World->Prop} (c:o.guard=none) (s x:Operand) (t:TypeId)
  (d:o.op=.call {callee:=.builtin .append,args:=#[s,x],argTypes:=#[t,t]})
  (base:Nat) (e:TypeId) (i:TypeInfo) (z:Value) (size bytes:Nat) (ht:P.underlying t=some (.slice e)) (hi:P.info? e=some i) (hz:i.zero=some z)
  (hsize:i.size=size) (hby:i.bytes=bytes) (hzs:z.cells.size=size) (hsz:0<size)
  (v:Value) (n:Nat) (xs:List Value) (hs:a.eval s=v) (hown:Own.Row w base e size v n xs) (news:List Value) (hl:news.length=size) (h1:∀u∈news,u.oneCell'=true)
  (k:Nat) (hk:w.heap.size=k) (hx:a.eval x=.slice (some ⟨k,0,none⟩) 1 1)
  (hn:n+1<=maxLen) (hbytes:(n+1)*bytes<=140737488355328) (hbase:base<=k)
  (h:∀v' w',Own.Row w' base e size v' (n+1) (xs++news)->Chg (fun k=>some k=v.ownBlock) w w'->(v'.ownBlock=v.ownBlock\/∀j,v'.ownBlock=some j->k+1<=j)->wpList P ops Q b (a.put o.dst v') w'):wpList P ops Q (o::b) a (w.alloc (.cells news.toArray e)):=by
 subst hk;exact Cu w c s x t d base e i z size bytes ht hi hz hsize hby hzs hsz v n xs hs hown news hl h1 hx hn hbytes hbase h
def NoSp (C:Nat->Prop) (w:World):Prop:=∀b cur fz,C b->w.heap[b]? =some (.cells cur 53 fz)->False
theorem NoSp.none (w:World):NoSp (fun _=>False) w:=fun _ _ _ h=>h.elim
def Al (w:World) (v:Value) (l:List Span):Prop:=∃a c,v=.slice a l.length c/\(l.length<=c/\c<=maxLen)/\(l≠ []->∃b off cur fz,a=some ⟨b,off,none⟩/\w.heap[b]? =some (.cells cur 53 fz)/\∀(j:Nat) (x:Span),l[j]? =some x->cur[off+j*2]? =some (.int .i64 x.1)/\cur[off+j*2+1]? =some (.int .i64 x.2))
theorem Al.chg {C:Nat->Prop} {w j:World} {v:Value} {l:List Span} (h:Al w v l) (n:Chg C w j) (o:NoSp C w):Al j v l:=by
 obtain⟨a,c,rfl,g,p⟩:=h;refine⟨a,c,rfl,g,fun i=>?_⟩;obtain⟨b,off,d,fz,rfl,e,q⟩:=p i;exact⟨b,off,d,fz,rfl,(n.block b (qd e) (fun m=>o b d fz m e)).trans e,q⟩
theorem Al.stays {w a:World} {v:Value} {l:List Span} (h:Al w v l) (b:qw w a):Al a v l:=h.chg (Chg.of (C:=fun _=>False) b) (NoSp.none w)
theorem Al.nil (w:World):Al w (.slice none 0 0) []:=⟨none,0,rfl,⟨ql,Nat.zero_le _⟩,fun h=>absurd rfl h⟩
theorem Al.shape {w:World} {v:Value} {l:List Span} (h:Al w v l):∃a c,v=.slice a l.length c:=by obtain⟨a,c,rfl, -⟩:=h;exact⟨a,c,rfl⟩
theorem Al.at {w:World} {a:Option Addr} {n c:Nat} {l:List Span} (h:Al w (.slice a n c) l) {j:Nat} {x:Span} (g:l[j]? =some x):∃b off,a=some ⟨b,off,none⟩/\w.cell? ⟨b,off+j*2,none⟩=some (.int .i64 x.1)/\w.cell? ⟨b,off+j*2+1,none⟩=some (.int .i64 x.2):=by
 obtain⟨r,t,e,u,p⟩:=h;injection e with e1 e2 e3;subst e1;obtain⟨b,off,i,fz,rfl,d,q⟩:=p (by intro e;subst e;simp at g);obtain⟨m,o⟩:=q j x g;exact⟨b,off,rfl,by rw[qc d];exact m,by rw[qc d];exact o⟩
theorem Al.len {w:World} {a:Option Addr} {n c:Nat} {l:List Span} (h:Al w (.slice a n c) l):n=l.length/\l.length<=c/\c<=maxLen:=by
 obtain⟨d,g,e,b,i⟩:=h;injection e with e1 e2 e3;subst e3;exact⟨e2,b⟩
def Az (l:List Span):List Value:=l.flatMap fun x=> [.int .i64 x.1,.int .i64 x.2]
theorem Gj (l:List Span):(Az l).length=l.length*2:=by
 induction l with
 | nil=>rfl
 | cons x r ih=>simp only[Az,List.flatMap_cons,List.length_append,List.length_cons,List.length_nil]at *;omega
theorem Gz (l:List Span) (x:Span):Az (l++ [x])=Az l++ [.int .i64 x.1,.int .i64 x.2]:=by simp[Az]
theorem Hu (l:List Span):∀u∈Az l,u.oneCell'=true:=by
 intro u b;obtain⟨x,_,a⟩:=List.mem_flatMap.1 b;simp at a;rcases a with rfl | rfl <;> rfl
theorem Jc:∀(l:List Span) (j:Nat) (x:Span),l[j]? =some x->(Az l)[j*2]? =some (.int .i64 x.1)/\(Az l)[j*2+1]? =some (.int .i64 x.2)
 | [],j,x,h=>by simp at h
 |y::r,0,x,h=>by
  obtain rfl:y=x:=by simpa using h
  exact⟨rfl,rfl⟩
 |y::r,j+1,x,h=>by
  have:=Jc r j x (by simpa using h);rw[show (j+1)*2=j*2+1+1 from by omega];exact this
theorem Al.of_row {w:World} {base:Nat} {v:Value} {l:List Span} (h:Own.Row w base 53 2 v l.length (Az l)):Al w v l:=by
 rcases h.2 with ⟨rfl,n⟩ | ⟨g,c,d,fz,rfl,u,q,p,i,e,o,m⟩
 ·have:l= []:=List.eq_nil_of_length_eq_zero n
  subst this;exact Al.nil w
 ·refine⟨_,c,rfl,⟨i,e⟩,fun t=>⟨g,0,d,fz,rfl,q,fun j x r=>?_⟩⟩
  obtain⟨a,b⟩:=Jc l j x r;rw[<- m]at a b;refine⟨?_,?_⟩
  ·rw[List.getElem?_take]at a
   split at a
   · simpa using a
   · cases a
  ·rw[List.getElem?_take]at b
   split at b
   · simpa using b
   · cases b
def PLies (w:World) (v:Value) (l:List Parse):Prop:=∃a c,v=.slice a l.length c/\(l.length<=c/\c<=maxLen)/\(l≠ []->∃b off cur fz,a=some ⟨b,off,none⟩/\w.heap[b]? =some (.cells cur 119 fz)/\∀(j:Nat) (p:Parse),l[j]? =some p->∃sv,cur[off+j*2]? =some (.int .i64 (p.1:Int))/\cur[off+j*2+1]? =some sv/\Al w sv p.2)
theorem PLies.chg {C:Nat->Prop} {w n:World} {v:Value} {l:List Parse} (h:PLies w v l) (m:Chg C w n) (u:NoSp C w) (x:∀b,v.ownBlock=some b->¬C b):PLies n v l:=by
 obtain⟨a,c,rfl,e,y⟩:=h;refine⟨a,c,rfl,e,fun g=>?_⟩;obtain⟨b,off,d,fz,rfl,i,z⟩:=y g;refine⟨b,off,d,fz,rfl,(m.block b (qd i) (x b rfl)).trans i,fun j p t=>?_⟩;obtain⟨A,o,q,r⟩:=z j p t;exact⟨A,o,q,r.chg m u⟩
theorem PLies.stays {w a:World} {v:Value} {l:List Parse} (h:PLies w v l) (b:qw w a):PLies a v l:=h.chg (Chg.of (C:=fun _=>False) b) (NoSp.none w) (fun _ _ h=>h)
theorem PLies.nil (w:World):PLies w (.slice none 0 0) []:=⟨none,0,rfl,⟨ql,Nat.zero_le _⟩,fun h=>absurd rfl h⟩
theorem PLies.shape {w:World} {v:Value} {l:List Parse} (h:PLies w v l):∃a c,v=.slice a l.length c:=by obtain⟨a,c,rfl, -⟩:=h;exact⟨a,c,rfl⟩
theorem PLies.at {w:World} {a:Option Addr} {n c:Nat} {l:List Parse} (h:PLies w (.slice a n c) l) {j:Nat} {p:Parse} (g:l[j]? =some p):∃b off sv,a=some ⟨b,off,none⟩/\w.cell? ⟨b,off+j*2,none⟩=some (.int .i64 (p.1:Int))/\w.cell? ⟨b,off+j*2+1,none⟩=some sv/\Al w sv p.2:=by
 obtain⟨u,x,e,y,r⟩:=h;injection e with e1 e2 e3;subst e1;obtain⟨b,off,i,fz,rfl,d,t⟩:=r (by intro e;subst e;simp at g);obtain⟨sv,m,o,q⟩:=t j p g;exact⟨b,off,sv,rfl,by rw[qc d];exact m,by rw[qc d];exact o,q⟩
theorem PLies.len {w:World} {a:Option Addr} {n c:Nat} {l:List Parse} (h:PLies w (.slice a n c) l):n=l.length/\l.length<=c/\c<=maxLen:=by
 obtain⟨d,g,e,b,i⟩:=h;injection e with e1 e2 e3;subst e3;exact⟨e2,b⟩
def Dq (l:List Parse) (vs:List Value):List Value:=(l.zip vs).flatMap fun x=> [.int .i64 (x.1.1:Int),x.2]
theorem pCells_snoc {l:List Parse} {a:List Value} (h:a.length=l.length) (p:Parse) (v:Value):Dq (l++ [p]) (a++ [v])=Dq l a++ [.int .i64 (p.1:Int),v]:=by
 unfold Dq;rw[List.zip_append h.symm];simp
theorem pCells_at:∀(l:List Parse) (a:List Value) (j:Nat) (p:Parse) (v:Value),l[j]? =some p->a[j]? =some v->(Dq l a)[j*2]? =some (.int .i64 (p.1:Int))/\(Dq l a)[j*2+1]? =some v
 | [],_,j,x,v,h,_=>by simp at h
 | _::_,[],j,x,v,_,h=>by simp at h
 |y::r,u::s,0,x,v,h,k=>by
  obtain rfl:y=x:=by simpa using h
  obtain rfl:u=v:=by simpa using k
  exact⟨rfl,rfl⟩
 |y::r,u::s,j+1,x,v,h,k=>by
  have:=pCells_at r s j x v (by simpa using h) (by simpa using k);rw[show (j+1)*2=j*2+1+1 from by omega];exact this
def PRow (w:World) (base:Nat) (v:Value) (l:List Parse):Prop:=∃vs:List Value,vs.length=l.length/\Own.Row w base 119 2 v l.length (Dq l vs)/\∀(j:Nat) (p:Parse) (sv:Value),l[j]? =some p->vs[j]? =some sv->Al w sv p.2
theorem PRow.nil (w:World) (base:Nat):PRow w base (.slice none 0 0) []:=⟨[],rfl,Own.Row.nil _ _ _ _,fun j p sv h=>by simp at h⟩
theorem PRow.lies {w:World} {base:Nat} {v:Value} {l:List Parse} (h:PRow w base v l):PLies w v l:=by
 obtain⟨c,z,hr,B⟩:=h;rcases hr.2 with ⟨rfl,t⟩ | ⟨g,d,e,fz,rfl,C,y,x,o,i,u,q⟩
 ·have:l= []:=List.eq_nil_of_length_eq_zero t
  subst this;exact PLies.nil w
 ·refine⟨_,d,rfl,⟨o,i⟩,fun A=>⟨g,0,e,fz,rfl,y,fun j p m=>?_⟩⟩
  have n:j<c.length:=by rw[z];exact (List.getElem?_eq_some_iff.1 m).1
  have r:c[j]? =some c[j]:=List.getElem?_eq_getElem n;obtain⟨a,b⟩:=pCells_at l c j p _ m r;rw[<- q]at a b;refine⟨_,?_,?_,B j p _ m r⟩
  ·rw[List.getElem?_take]at a
   split at a
   · simpa using a
   · cases a
  ·rw[List.getElem?_take]at b
   split at b
   · simpa using b
   · cases b
theorem PRow.chg {C:Nat->Prop} {w d:World} {base:Nat} {v:Value} {l:List Parse} (h:PRow w base v l) (c:Chg C w d) (i:NoSp C w) (n:∀b,v.ownBlock=some b->¬C b):PRow d base v l:=by
 obtain⟨q,g,hr,m⟩:=h;exact⟨q,g,Row.chg hr c n,fun j p o e a=>(m j p o e a).chg c i⟩
theorem PRow.stays {w a:World} {base:Nat} {v:Value} {l:List Parse} (h:PRow w base v l) (b:qw w a):PRow a base v l:=h.chg (Chg.of (C:=fun _=>False) b) (NoSp.none w) (fun _ _ h=>h)
theorem PRow.lt {w:World} {base:Nat} {v:Value} {l:List Parse} (h:PRow w base v l):∀k,v.ownBlock=some k->base<=k/\k<w.heap.size:=by
 obtain⟨c,a,hr,b⟩:=h;exact hr.lt
theorem PRow.mono {w:World} {base a:Nat} {v:Value} {l:List Parse} (h:PRow w base v l) (b:a<=base):PRow w a v l:=by
 obtain⟨e,c,hr,d⟩:=h;exact⟨e,c,hr.mono b,d⟩
theorem PRow.noSp {w:World} {base:Nat} {v:Value} {l:List Parse} (h:PRow w base v l):NoSp (fun k=>some k=v.ownBlock) w:=by
 obtain⟨q,o,hr,p⟩:=h;intro b i fz c m;rcases hr.2 with ⟨rfl,n⟩ | ⟨g,e,d,j,rfl,_,a,_⟩
 · cases c
 ·simp only[Value.ownBlock,Option.some.injEq]at c
  subst c;rw[m]at a;injection a with a;injection a with _ h1 _;exact absurd h1 (by decide)
theorem PRow.more {w m:World} {base:Nat} {r:Value} {l:List Parse} {d:List Value} {p:Parse} {b:Value} (h:d.length=l.length) (t:∀(j:Nat) (p:Parse) (b:Value),l[j]? =some p->d[j]? =some b->Al w b p.2)
  (i:Al w b p.2) (hr:Own.Row m base 119 2 r (l.length+1) (Dq l d++ [.int .i64 (p.1:Int),b])) {C:Nat->Prop} (n:Chg C w m) (o:NoSp C w):PRow m base r (l++ [p]):=by
 refine⟨d++ [b],by simp[h],?_,fun j q u a c=>?_⟩
 ·rw[pCells_snoc h,List.length_append]
  exact hr
 ·by_cases hjl:j<l.length
  ·rw[List.getElem?_append_left hjl]at a
   rw[List.getElem?_append_left (by omega)]at c;exact (t j q u a c).chg n o
  ·have g:j< (l++ [p]).length:=(List.getElem?_eq_some_iff.1 a).1
   simp only[List.length_append,List.length_singleton]at g;have e:j=l.length:=by omega
   subst e;rw[List.getElem?_append_right ql]at a;rw[List.getElem?_append_right (by omega)]at c;simp[h]at a c;subst a c;exact i.chg n o
end ReMem
namespace MatchMath
theorem word_zero (p:Nat->Bool) (j:Nat):Sets.Aa p j=0↔ ∀i,i<64->p (64*j+i)=false:=by
 constructor
 ·intro h i hi
  have:=Sets.Bq p j i;rw[h]at this;simpa [hi] using this.symm
 ·intro h
  refine Sets.word_ext _ _ (Sets.Eb p j) (by decide) fun i hi=>?_;rw[Sets.Bq,h i hi];simp
theorem Mt (p:Nat->Bool):Dg p=(Sets.Aa p 0==0&&(Sets.Aa p 1==0&&(Sets.Aa p 2==0&&Sets.Aa p 3==0))):=by
 rw[Bool.eq_iff_iff];simp only[Bool.and_eq_true,beq_iff_eq,word_zero];unfold Dg;rw[List.all_eq_true];constructor
 ·intro h
  have a:∀c,c<256->p c=false:=fun c b=>by simpa using h c (List.mem_range.2 b)
  exact⟨fun i hi=>a _ (by omega),fun i hi=>a _ (by omega),fun i hi=>a _ (by omega),fun i hi=>a _ (by omega)⟩
 ·rintro ⟨d,e,g,j⟩ c b
  have b:=List.mem_range.1 b;have:p c=false:=by
   by_cases q0:c<64
   · simpa using d c q0
   ·by_cases q1:c<128
    ·have:=e (c-64) (by omega)
     rwa [show 64*1+(c-64)=c from by omega]at this
    ·by_cases q2:c<192
     ·have:=g (c-128) (by omega)
      rwa [show 64*2+(c-128)=c from by omega]at this
     ·have:=j (c-192) (by omega)
      rwa [show 64*3+(c-192)=c from by omega]at this
  simp[this]
end MatchMath
namespace ReEq
open Go Go.RowKit
theorem Zp (op:BinOp) (x y:Operand) (xs a:Array Value) (w:World):(eqGuard op 25 x y (.agg xs) (.agg a)).run Tryz.prog w=.ok () w:=
 run_eqGuard_agg w op _ x y xs a (by kernel_rfl)
theorem Nt (d i:Nat) (e:List Nat) (xs c:Array Value) (a b:Int) (w:World) (g:xs[i]? =some (.int .u64 a)) (h:c[i]? =some (.int .u64 b)):
  (Op.eqItems (d+1) 22 1 xs c (i::e)).run Tryz.prog w=if a==b then (Op.eqItems (d+1) 22 1 xs c e).run Tryz.prog w else .ok false w:=by
 simp only[Op.eqItems,Sem.run_bind,Nat.mul_one];rw[run_part_plain w (by kernel_rfl) g,Result.andThen_ok,run_part_plain w (by kernel_rfl) h,Result.andThen_ok,run_equalIn_int w d _ .u64 .u64 a b (by kernel_rfl),Result.andThen_ok];cases a==b <;> simp
theorem St (d:Nat) (a b c g h j l m:Int) (w:World):
  (Op.equalIn (d+2) 23 (.agg #[.int .u64 a,.int .u64 b,.int .u64 c,.int .u64 g]) (.agg #[.int .u64 h,.int .u64 j,.int .u64 l,.int .u64 m])).run Tryz.prog w=.ok (a==h&&(b==j&&(c==l&&g==m))) w:=by
 have hi:∃i,Tryz.prog.info? 22=some i:=Option.isSome_iff_exists.1 (by kernel_rfl);obtain⟨i,hi⟩:=hi;rw[run_equalIn_array w (d+1) _ _ (e:=22) (n:=4) (by kernel_rfl) hi,show Tryz.prog.cellsOf 22=1 from by kernel_rfl,show List.range 4= [0,1,2,3] from rfl];rw[Nt d 0 _ _ _ a h w rfl rfl,Nt d 1 _ _ _ b j w rfl rfl,Nt d 2 _ _ _ c l w rfl rfl,Nt d 3 _ _ _ g m w rfl rfl];cases a==h <;> cases b==j <;> cases c==l <;> cases g==m <;> simp[Op.eqItems]
theorem equal_words' (a b c d e g h i:Int) (w:World):
  (Op.equalIn 9999 23 (.agg #[.int .u64 a,.int .u64 b,.int .u64 c,.int .u64 d]) (.agg #[.int .u64 e,.int .u64 g,.int .u64 h,.int .u64 i])).run Tryz.prog w=.ok (a==e&&(b==g&&(c==h&&d==i))) w:=
 St 9997 a b c d e g h i w
theorem Zk (b c d e h j l m:Int) (w:World):
   (Op.equalIn 10000 25 (.agg #[.int .u64 b,.int .u64 c,.int .u64 d,.int .u64 e]) (.agg #[.int .u64 h,.int .u64 j,.int .u64 l,.int .u64 m])).run Tryz.prog w=.ok (b==h&&(c==j&&(d==l&&e==m))) w:=by
 have a:(Tryz.prog.fieldsOf 25).toList.map (fun f=>(f.name== "_",f.type,f.offset))= [(false,23,0)]:=by kernel_rfl
 rw[show (10000:Nat)=9999+1 from rfl,run_equalIn_agg w 9999 _ _ _ (by kernel_rfl) (by kernel_rfl)]
 match hl:(Tryz.prog.fieldsOf 25).toList with
 | []=>rw[hl]at a;simp at a
 | f::g::r=>rw[hl]at a;simp at a
 | [f]=>
   rw[hl]at a;simp only[List.map_cons,List.map_nil,List.cons.injEq,Prod.mk.injEq,and_true]at a;obtain⟨o,t,p⟩:=a;have n:f.name≠ "_" :=by simpa using o
   have hi:∃i,Tryz.prog.info? 23=some i:=Option.isSome_iff_exists.1 (by kernel_rfl);obtain⟨i,hi⟩:=hi;have q:∀c0 c1 c2 c3:Value,(part 23 #[c0,c1,c2,c3] 0).run Tryz.prog w=.ok (.agg #[c0,c1,c2,c3]) w:=fun c0 c1 c2 c3=>by
    simp[part,isAgg,run_underlying (show Tryz.prog.underlying 23=some (.array 4 22) from by kernel_rfl)]
   simp only[Op.eqFields,n,ne_eq,not_false_eq_true,if_true,Sem.run_bind,t,p,q,Result.andThen_ok];rw[show (9999:Nat)=9997+2 from rfl,St,Result.andThen_ok];cases (b==h&&(c==j&&(d==l&&e==m))) <;> simp
end ReEq
namespace ReMem
open Go Go.RowKit MatchMath Strs
theorem cast0 (x:Nat):((x:Int)==0)=(x==0):=by rw[Bool.eq_iff_iff,beq_iff_eq,beq_iff_eq];omega
theorem shaped_any (o l h g:Int) (p:Nat->Bool) (args:List Re) (a:Option Addr) (c:Nat) (w:World) (t:args.length<=9223372036854775807):
  Calls Tryz.prog 117 #[.agg #[.int .i64 o,.int .u64 (Sets.Aa p 0:Nat),.int .u64 (Sets.Aa p 1:Nat),.int .u64 (Sets.Aa p 2:Nat),.int .u64 (Sets.Aa p 3:Nat),.int .i64 l,.int .i64 h,.int .i64 g,.slice a args.length c]] w fun e w'=>e=.returned (.bool (shaped (.mk o p l h g args)))/\qw w w':=by
 have HS:Hid (shaped (.mk o p l h g args)=(let n:=args.length
  let b:=decide (l=0/\h=0)
  let gr:=decide (g=0)
  if o=1\/o=7\/o=8 then decide (n=0)&&b&&gr&&Dg p
  else if o=2 then decide (n=0)&&b&&gr&& !Dg p
  else if o=3\/o=4 then decide (2<=n)&&b&&gr&&Dg p
  else if o=5 then decide (n=1)&&gr&&Dg p
  else if o=6 then decide (n=1)&&b&&Dg p
  else if o=9 then decide (n=0)&&b&&Dg p
  else false)):=rfl
 have i:=qh (Mt p);generalize shaped (.mk o p l h g args)=R at*;generalize args.length=n at*;generalize Sets.Aa p 0=x0 at*;generalize Sets.Aa p 1=x1 at*;generalize Sets.Aa p 2=x2 at*;generalize Sets.Aa p 3=x3 at*;have HG:=qh ReEq.Zp;have d:=qh ReEq.Zk;rcases (by omega:o=1\/o=7\/o=8\/o=2\/o=3\/o=4\/o=5\/o=6\/o=9\/(o≠1/\o≠7/\o≠8/\o≠2/\o≠3/\o≠4/\o≠5/\o≠6/\o≠9)) with rfl | rfl | rfl | rfl | rfl | rfl | rfl | rfl | rfl | ⟨u,C,D,x,y,z,A,B,E⟩;all_goals by_cases hl:l=0
 all_goals try subst hl
 all_goals go_enter func117,ntmps117
 all_goals go_wp2
 all_goals have r:=HG.o
 all_goals have q:=d.o
 all_goals go_quiet (fail)
 all_goals clear r q
 all_goals go_wp2
 all_goals go_ret
 all_goals (refine ⟨?_,Base.Ba ((qb w _).alloc (by simp) _) _⟩)
 all_goals (have j:=HS.o;have m:=i.o;clear HS i HG d;(try simp only[cast0]);rw[j];clear j;cases hp:Dg p <;> rw[hp]at m <;> (try rw[<- m]) <;> simp_all <;> try omega)
end ReMem
namespace ReMem
open Go Go.RowKit MatchMath Strs
theorem Ym (o l h g:Int) (p:Nat->Bool) (args:List Re) (a:Option Addr) (c:Nat) (w:World) (u:args.length<=9223372036854775807):
  Calls Tryz.prog 86 #[.agg #[.int .i64 o,.int .u64 (Sets.Aa p 0:Nat),.int .u64 (Sets.Aa p 1:Nat),.int .u64 (Sets.Aa p 2:Nat),.int .u64 (Sets.Aa p 3:Nat),.int .i64 l,.int .i64 h,.int .i64 g,.slice a args.length c]] w fun e w'=>e=.returned (.bool (shaped (.mk o p l h g args)))/\qw w w':=by
 have HS:Hid (shaped (.mk o p l h g args)=(let n:=args.length
  let b:=decide (l=0/\h=0)
  let gr:=decide (g=0)
  if o=1\/o=7\/o=8 then decide (n=0)&&b&&gr&&Dg p
  else if o=2 then decide (n=0)&&b&&gr&& !Dg p
  else if o=3\/o=4 then decide (2<=n)&&b&&gr&&Dg p
  else if o=5 then decide (n=1)&&gr&&Dg p
  else if o=6 then decide (n=1)&&b&&Dg p
  else if o=9 then decide (n=0)&&b&&Dg p
  else false)):=rfl
 have i:=qh (Mt p);generalize shaped (.mk o p l h g args)=R at*;generalize args.length=n at*;generalize Sets.Aa p 0=x0 at*;generalize Sets.Aa p 1=x1 at*;generalize Sets.Aa p 2=x2 at*;generalize Sets.Aa p 3=x3 at*;have HG:=qh ReEq.Zp;have r:=qh ReEq.Zk;rcases (by omega:o=1\/o=7\/o=8\/o=2\/o=3\/o=4\/o=5\/o=6\/o=9\/(o≠1/\o≠7/\o≠8/\o≠2/\o≠3/\o≠4/\o≠5/\o≠6/\o≠9)) with rfl | rfl | rfl | rfl | rfl | rfl | rfl | rfl | rfl | ⟨x,E,G,y,A,B,C,D,I⟩;all_goals generalize hz:((x0:Int)==0&&((x1:Int)==0&&((x2:Int)==0&&(x3:Int)==0)))=z at*
 all_goals cases z
 all_goals go_enter func86,ntmps86
 all_goals have t:=fun W=>ReEq.equal_words' x0 x1 x2 x3 0 0 0 0 W
 all_goals simp only[hz]at t
 all_goals have j:=qh hz
 all_goals clear hz
 all_goals go_wp2
 all_goals go_ret
 all_goals (refine ⟨?_,qb w _⟩)
 all_goals (have m:=HS.o;have q:=i.o;have d:=j.o;clear HS i HG r j;simp only[cast0]at d;rw[d]at q;clear d;rw[m];clear m;rw[q];simp_all <;> first | omega | (rw [Bool.eq_iff_iff,beq_iff_eq,decide_eq_true_iff];omega))
end ReMem
namespace ReMem
open Go Go.RowKit MatchMath Strs
theorem Xm:∀l:List Re,Dk l=l.all typed
 | []=>rfl
 | x::r=>by rw[Dk,List.all_cons,Xm r]
theorem typed_mk (o:Int) (p:Nat->Bool) (l h g:Int) (args:List Re):typed (.mk o p l h g args)=(shaped (.mk o p l h g args)&&args.all typed):=by rw[typed,Xm]
theorem all_upto {α:Type} {f:α->Bool} {l:List α} (h:∀(j:Nat) t,j<l.length->l[j]? =some t->f t=true):l.all f=true:=by
 rw[List.all_eq_true];intro k b;obtain⟨j,a,e⟩:=List.mem_iff_getElem.1 b;exact h j k a (by rw[List.getElem?_eq_getElem a,e])
theorem not_upto {α:Type} {f:α->Bool} {l:List α} {j:Nat} {k:α} (h:l[j]? =some k) (a:f k=false):l.all f=false:=by
 cases ha:l.all f with
 | false=>rfl
 |true=>
  rw[List.all_eq_true]at ha;have:=ha k (List.mem_of_getElem? h);rw[a]at this;cases this
theorem refTyped_any:∀(n:Nat) (e:Re) (v:Value) (w:World),size e<n->Ag e->Lies w v e.args->
  Calls Tryz.prog 62 #[Ac v e] w fun r w'=>r=.returned (.bool (typed e))/\qw w w':=by
 intro n
 induction n with
 | zero=>intro e v w U;omega
 |succ n ih=>
  intro e v w U a0 hl;obtain⟨o,p,l,h,g,args⟩:=e;obtain⟨a,c,vs,rfl,⟨T,P⟩,ho⟩:=hl.opened;have IH:=qh (fun t v W (L:t∈args)=>ih t v W (Nat.lt_of_lt_of_le (Bo (e:=.mk o p l h g args) L) (Nat.le_of_lt_succ U)));clear ih U hl;have N:=qh (typed_mk o p l h g args);unfold Ac;simp only[Re.op,Re.set,Re.lo,Re.hi,Re.group,Re.args]at*;have O:args.length<=9223372036854775807:=Nat.le_trans T P;have HS:=qh (fun W=>Ym o l h g p args a c W O);have HO:=qh ho;clear ho;generalize typed (.mk o p l h g args)=R at*;generalize shaped (.mk o p l h g args)=S at*;generalize Sets.Aa p 0=x0 at*;generalize Sets.Aa p 1=x1 at*;generalize Sets.Aa p 2=x2 at*;generalize Sets.Aa p 3=x3 at*;have Y:=qh (qb w (.cells #[.int .i64 o,.int .u64 x0,.int .u64 x1,.int .u64 x2,.int .u64 x3,.int .i64 l,.int .i64 h,.int .i64 g,.slice a args.length c] 28));have D:=qh (Box9.new w o x0 x1 x2 x3 l h g (.slice a args.length c) 28);cases S
  ·go_enter func62,ntmps62
   go_wp2_with (go_at_call 86
                (with_reducible refine (HS.o _).mono ?_);rintro e w2 ⟨rfl,d⟩;have x:=qh (Ab Y.o d))
   go_ret;exact⟨by rw[N.o];rfl,x.o⟩
  ·go_enter func62,ntmps62
   go_wp2_with (go_at_call 86
                (with_reducible refine (HS.o _).mono ?_);rintro e w2 ⟨rfl,d⟩;have x:=qh (Ab Y.o d))
   go_loopw [3] (fun i wr=>∃q:Nat,q<=args.length/\i=.int .i64 q/\qw w wr/\Box9 wr w.heap.size o x0 x1 x2 x3 l h g (.slice a args.length c)/\∀(j:Nat) t,j<q->args[j]? =some t->typed t=true) (fun i _=>args.length-(intOf i).toNat)
   case atStart=>exact⟨0,Nat.zero_le _,rfl,x.o,D.o.stays d,fun j t Q=>absurd Q (Nat.not_lt_zero _)⟩
   case round=>
    obtain⟨q,hq,rfl,K,E,u⟩:=hrel;have X:=qh u;have M:=qh E;have z:=qh K;obtain⟨d0,d1,d2,d3,d4,d5,d6,d7,d8,d9⟩:=E;clear u;by_cases hlt:q<args.length
    ·obtain⟨t,v,b,off,L,hv,rfl,⟨k0,k1,k2,k3,k4,k5,k6,k7,k8⟩,J,G,hm⟩:=(HO.o.stays K).at hlt
     have V:(q:Int)< (args.length:Int):=by omega
     have B:=qh (IH.o t v wr hm G J);have C:=qh L;unfold Ac at B;clear L hv G J hm K;cases hty:typed t with
     |true=>
      rw[hty]at B
      go_wp2_with (go_at_call 62
                   (with_reducible refine B.o.mono ?_);rintro e w3 ⟨rfl,m⟩;have y:=qh (Ab z.o m);have A:=qh (M.o.stays m))
      go_roundw
      case rel=>exact⟨q+1,by omega,by go_num,y.o,A.o,fun j t' Q I=>by
       by_cases hjq:j=q
       ·subst hjq
        rw[C.o]at I;cases I
        exact hty
       · exact X.o j t' (by omega) I⟩
      case measure=>simp[intOf];omega
     |false=>
      rw[hty]at B
      go_wp2_with (go_at_call 62
                   (with_reducible refine B.o.mono ?_);rintro e w3 ⟨rfl,m⟩;have y:=qh (Ab z.o m))
      go_ret;exact⟨by rw[N.o,not_upto C.o hty];rfl,y.o⟩
    ·have V:¬(q:Int)< (args.length:Int):=by omega
     have a1:q=args.length:=by omega
     clear K;go_wp2;go_ret;exact⟨by rw[N.o,all_upto (fun j t Q I=>X.o j t (by omega) I)];rfl,z.o⟩
end ReMem
namespace ReMem
open Go Go.RowKit MatchMath Strs
theorem En:∀a b:List Re,sizes (a++b)=sizes a+sizes b
 | [],b=>by rw[List.nil_append,sizes,Nat.zero_add]
 | x::r,b=>by rw[List.cons_append,sizes,sizes,En r b,Nat.add_assoc]
theorem Bt {α:Type} {l:List α} {q:Nat} {t:α} (h:l[q]? =some t):l.take (q+1)=l.take q++ [t]:=by rw[List.take_add_one,h];rfl
theorem Ch {l:List Re} {q:Nat} {t:Re} (h:l[q]? =some t):sizes (l.take (q+1))=sizes (l.take q)+size t:=by
 rw[Bt h,En,sizes,sizes,Nat.add_zero]
theorem Cz (l:List Re) (q:Nat):sizes (l.take q)<=sizes l:=by
 have:=En (l.take q) (l.drop q);rw[List.take_append_drop]at this;omega
theorem refSize_any:∀(n:Nat) (e:Re) (v:Value) (w:World),size e<n->size e<=4096->Ag e->Lies w v e.args->
  Calls Tryz.prog 65 #[Ac v e] w fun r w'=>r=.returned (.int .i64 (size e:Nat))/\qw w w':=by
 intro n
 induction n with
 | zero=>intro e v w M;omega
 |succ n ih=>
  intro e v w M hs T U;obtain⟨o,p,l,h,g,args⟩:=e;obtain⟨a,c,vs,rfl,⟨L,K⟩,X⟩:=U.opened;have IH:=qh (fun t v W (D:t∈args)=>ih t v W (Nat.lt_of_lt_of_le (Bo (e:=.mk o p l h g args) D) (Nat.le_of_lt_succ M)) (Nat.le_of_lt (Nat.lt_of_lt_of_le (Bo (e:=.mk o p l h g args) D) hs)));clear ih M U;have S:Hid (size (.mk o p l h g args)=1+sizes args):=by show _=_;rw[size]
  have a2:sizes args<=4095:=by have:=S.o;omega
  unfold Ac;simp only[Re.op,Re.set,Re.lo,Re.hi,Re.group,Re.args]at*;have a0:args.length<=9223372036854775807:=Nat.le_trans L K;have HO:=qh X;clear X;generalize size (.mk o p l h g args)=R at*;generalize Sets.Aa p 0=x0 at*;generalize Sets.Aa p 1=x1 at*;generalize Sets.Aa p 2=x2 at*;generalize Sets.Aa p 3=x3 at*;have Y:=qh (qb w (.cells #[.int .i64 o,.int .u64 x0,.int .u64 x1,.int .u64 x2,.int .u64 x3,.int .i64 l,.int .i64 h,.int .i64 g,.slice a args.length c] 28));have u:=qh (Box9.new w o x0 x1 x2 x3 l h g (.slice a args.length c) 28);go_enter func65,ntmps65;go_wp2
  go_loopw [3,4] (fun m i wr=>∃q:Nat,q<=args.length/\i=.int .i64 q/\m=.int .i64 (1+sizes (args.take q):Nat)/\qw w wr/\Box9 wr w.heap.size o x0 x1 x2 x3 l h g (.slice a args.length c)) (fun _ i _=>args.length-(intOf i).toNat)
  case atStart=>exact⟨0,Nat.zero_le _,rfl,rfl,Y.o,u.o⟩
  case round=>
   obtain⟨q,hq,rfl,rfl,E,A⟩:=hrel;have I:=qh A;have d:=qh E;obtain⟨d0,d1,d2,d3,d4,d5,d6,d7,d8,d9⟩:=A;have a4:((1+sizes (args.take q):Nat):Int)<=4096:=by have:=Cz args q;omega
   have a3:(0:Int)<=((1+sizes (args.take q):Nat):Int):=by omega
   by_cases hlt:q<args.length
   ·obtain⟨t,v,b,off,D,hv,rfl,⟨k0,k1,k2,k3,k4,k5,k6,k7,k8⟩,C,B,V⟩:=(HO.o.stays E).at hlt
    have N:(q:Int)< (args.length:Int):=by omega
    have Q:=qh (IH.o t v wr V B C);have P:=Ch D;have O:=Cz args (q+1);have J:Hid (((1+sizes (args.take q):Nat):Int)+(size t:Nat)=(1+sizes (args.take (q+1)):Nat)):=by show _=_;omega
    have a5:((1+sizes (args.take q):Nat):Int)+(size t:Nat)<=4096:=by omega
    have a6:(0:Int)<=((size t:Nat):Int):=by omega
    unfold Ac at Q;clear D hv B C V E P O;generalize ((1+sizes (args.take q):Nat):Int)=z at*;generalize ((size t:Nat):Int)=y at*
    go_wp2_with (go_at_call 65
                 (with_reducible refine Q.o.mono ?_);rintro e w3 ⟨rfl,x⟩;have G:=qh (Ab d.o x);have j:=qh (I.o.stays x))
    go_roundw
    case rel=>exact⟨q+1,by omega,by go_num,by rw[<- J.o],G.o,j.o⟩
    case measure=>simp[intOf];omega
   ·have N:¬(q:Int)< (args.length:Int):=by omega
    have a1:q=args.length:=by omega
    clear E;go_wp2;go_ret;exact⟨by rw[S.o,Int.natCast_add];rfl,d.o⟩
end ReMem
namespace ReMem
open Go Go.RowKit MatchMath Strs
theorem Jw (k:Int):∀a b:List Re,Ai k (a++b)=Ai k a+Ai k b
 | [],b=>by rw[List.nil_append,Ai,Nat.zero_add]
 | x::r,b=>by rw[List.cons_append,Ai,Ai,Jw k r b,Nat.add_assoc]
theorem Ec {k:Int} {l:List Re} {q:Nat} {t:Re} (h:l[q]? =some t):Ai k (l.take (q+1))=Ai k (l.take q)+Af k t:=by
 rw[Bt h,Jw,Ai,Ai,Nat.add_zero]
theorem Nj (k:Int) (l:List Re) (q:Nat):Ai k (l.take q)<=Ai k l:=by
 have:=Jw k (l.take q) (l.drop q);rw[List.take_append_drop]at this;omega
mutual
theorem Ip (k:Int):∀e:Re,Af k e<=size e
 | .mk o _ _ _ _ args=>by
   have:=By k args;rw[Af,size];split <;> omega
theorem By (k:Int):∀l:List Re,Ai k l<=sizes l
 | []=>by rw[Ai];exact Nat.zero_le _
 | x::r=>by
   have:=Ip k x;have:=By k r;rw[Ai,sizes];omega
end
theorem Dc:∀(n:Nat) (e:Re) (v:Value) (w:World),size e<n->size e<=4096->Ag e->Lies w v e.args->
  Calls Tryz.prog 23 #[Ac v e] w fun r w'=>r=.returned (.int .i64 (Af 6 e:Nat))/\qw w w':=by
 intro n
 induction n with
 | zero=>intro e v w X;omega
 |succ n ih=>
  intro e v w X hs a4 hl;obtain⟨o,p,l,h,g,args⟩:=e;obtain⟨a,c,vs,rfl,⟨V,T⟩,N⟩:=hl.opened;have IH:=qh (fun t v W (E:t∈args)=>ih t v W (Nat.lt_of_lt_of_le (Bo (e:=.mk o p l h g args) E) (Nat.le_of_lt_succ X)) (Nat.le_of_lt (Nat.lt_of_lt_of_le (Bo (e:=.mk o p l h g args) E) hs)));clear ih X hl;have P:Hid (Af 6 (.mk o p l h g args)=(if o=6 then 1 else 0)+Ai 6 args):=by show _=_;rw[Af]
  have S:(if o=6 then 1 else 0)+Ai 6 args<=4096:=by have:=P.o;have:=Ip 6 (.mk o p l h g args);omega
  unfold Ac;simp only[Re.op,Re.set,Re.lo,Re.hi,Re.group,Re.args]at*;have a5:args.length<=9223372036854775807:=Nat.le_trans V T;have HO:=qh N;clear N;generalize Af 6 (.mk o p l h g args)=R at*;generalize Sets.Aa p 0=x0 at*;generalize Sets.Aa p 1=x1 at*;generalize Sets.Aa p 2=x2 at*;generalize Sets.Aa p 3=x3 at*;have HB:=qh (qb w (.cells #[.int .i64 o,.int .u64 x0,.int .u64 x1,.int .u64 x2,.int .u64 x3,.int .i64 l,.int .i64 h,.int .i64 g,.slice a args.length c] 28));have D:=qh (Box9.new w o x0 x1 x2 x3 l h g (.slice a args.length c) 28);by_cases N:o=6
  ·subst N
   rw[if_pos rfl]at P S;go_enter func23,ntmps23;go_wp2
   go_loopw [3,4] (fun m i wr=>∃q:Nat,q<=args.length/\i=.int .i64 q/\m=.int .i64 (1+Ai 6 (args.take q):Nat)/\qw w wr/\Box9 wr w.heap.size 6 x0 x1 x2 x3 l h g (.slice a args.length c)) (fun _ i _=>args.length-(intOf i).toNat)
   case atStart=>exact⟨0,Nat.zero_le _,rfl,rfl,HB.o,D.o⟩
   case round=>
    obtain⟨q,hq,rfl,rfl,C,x⟩:=hrel;have I:=qh x;have d:=qh C;obtain⟨d0,d1,d2,d3,d4,d5,d6,d7,d8,d9⟩:=x;have a1:((1+Ai 6 (args.take q):Nat):Int)<=4096:=by have:=Nj 6 args q;omega
    have a0:(0:Int)<=((1+Ai 6 (args.take q):Nat):Int):=by omega
    by_cases hlt:q<args.length
    ·obtain⟨t,v,b,off,E,Y,rfl,⟨k0,k1,k2,k3,k4,k5,k6,k7,k8⟩,B,A,Q⟩:=(HO.o.stays C).at hlt
     have K:(q:Int)< (args.length:Int):=by omega
     have O:=qh (IH.o t v wr Q A B);have M:=Ec (k:=6) E;have L:=Nj 6 args (q+1);have J:Hid (((1+Ai 6 (args.take q):Nat):Int)+(Af 6 t:Nat)=(1+Ai 6 (args.take (q+1)):Nat)):=by show _=_;omega
     have a2:((1+Ai 6 (args.take q):Nat):Int)+(Af 6 t:Nat)<=4096:=by omega
     have a3:(0:Int)<=((Af 6 t:Nat):Int):=by omega
     unfold Ac at O;clear E Y A B Q C M L;generalize ((1+Ai 6 (args.take q):Nat):Int)=z at*;generalize ((Af 6 t:Nat):Int)=y at*
     go_wp2_with (go_at_call 23
                  (with_reducible refine O.o.mono ?_);rintro e w3 ⟨rfl,u⟩;have G:=qh (Ab d.o u);have j:=qh (I.o.stays u))
     go_roundw
     case rel=>exact⟨q+1,by omega,by go_num,by rw[<- J.o],G.o,j.o⟩
     case measure=>simp[intOf];omega
    ·have K:¬(q:Int)< (args.length:Int):=by omega
     have U:q=args.length:=by omega
     clear C;go_wp2;go_ret;exact⟨by rw[P.o,Int.natCast_add];rfl,d.o⟩
  ·rw[if_neg N]at P S
   have a6:(o==6)=false:=by simp[N]
   go_enter func23,ntmps23;go_wp2
   go_loopw [3,4] (fun m i wr=>∃q:Nat,q<=args.length/\i=.int .i64 q/\m=.int .i64 (0+Ai 6 (args.take q):Nat)/\qw w wr/\Box9 wr w.heap.size o x0 x1 x2 x3 l h g (.slice a args.length c)) (fun _ i _=>args.length-(intOf i).toNat)
   case atStart=>exact⟨0,Nat.zero_le _,rfl,rfl,HB.o,D.o⟩
   case round=>
    obtain⟨q,hq,rfl,rfl,C,x⟩:=hrel;have I:=qh x;have d:=qh C;obtain⟨d0,d1,d2,d3,d4,d5,d6,d7,d8,d9⟩:=x;have a1:((0+Ai 6 (args.take q):Nat):Int)<=4096:=by have:=Nj 6 args q;omega
    have a0:(0:Int)<=((0+Ai 6 (args.take q):Nat):Int):=by omega
    by_cases hlt:q<args.length
    ·obtain⟨t,v,b,off,E,Y,rfl,⟨k0,k1,k2,k3,k4,k5,k6,k7,k8⟩,B,A,Q⟩:=(HO.o.stays C).at hlt
     have K:(q:Int)< (args.length:Int):=by omega
     have O:=qh (IH.o t v wr Q A B);have M:=Ec (k:=6) E;have L:=Nj 6 args (q+1);have J:Hid (((0+Ai 6 (args.take q):Nat):Int)+(Af 6 t:Nat)=(0+Ai 6 (args.take (q+1)):Nat)):=by show _=_;omega
     have a2:((0+Ai 6 (args.take q):Nat):Int)+(Af 6 t:Nat)<=4096:=by omega
     have a3:(0:Int)<=((Af 6 t:Nat):Int):=by omega
     unfold Ac at O;clear E Y A B Q C M L;generalize ((0+Ai 6 (args.take q):Nat):Int)=z at*;generalize ((Af 6 t:Nat):Int)=y at*
     go_wp2_with (go_at_call 23
                  (with_reducible refine O.o.mono ?_);rintro e w3 ⟨rfl,u⟩;have G:=qh (Ab d.o u);have j:=qh (I.o.stays u))
     go_roundw
     case rel=>exact⟨q+1,by omega,by go_num,by rw[<- J.o],G.o,j.o⟩
     case measure=>simp[intOf];omega
    ·have K:¬(q:Int)< (args.length:Int):=by omega
     have U:q=args.length:=by omega
     clear C;go_wp2;go_ret;exact⟨by rw[P.o,Nat.zero_add];rfl,d.o⟩
end ReMem
namespace ReMem
open Go Go.RowKit MatchMath Strs
def Hb (k:Int) (e:Re):Bool:=decide (0<Af k e)
theorem hasOp_mk (k o:Int) (p:Nat->Bool) (l h g:Int) (args:List Re):Hb k (.mk o p l h g args)=(decide (o=k)|| !args.all fun t=> !Hb k t):=by
 have b:∀l:List Re,(0<Ai k l)↔(l.all fun t=> !Hb k t)=false:=by
  intro l
  induction l with
  | nil=>simp[Ai]
  |cons x r ih=>
   rw[Ai,List.all_cons,Bool.and_eq_false_iff,<-ih];have:(!Hb k x)=false↔0<Af k x:=by unfold Hb;simp
   rw[this];omega
 rw[Bool.eq_iff_iff];have a:=b args;unfold Hb at a ⊢;rw[decide_eq_true_iff,Af,Bool.or_eq_true,decide_eq_true_iff,Bool.not_eq_true',<-a];by_cases h:o=k
 · simp[h];omega
 · simp[h]
theorem Jq:∀(n:Nat) (e:Re) (v:Value) (w:World),size e<n->Ag e->Lies w v e.args->
  Calls Tryz.prog 42 #[Ac v e] w fun r w'=>r=.returned (.bool (Hb 9 e))/\qw w w':=by
 intro n
 induction n with
 | zero=>intro e v w Q;omega
 |succ n ih=>
  intro e v w Q V X;obtain⟨o,p,l,h,g,args⟩:=e;obtain⟨a,c,vs,rfl,⟨P,N⟩,y⟩:=X.opened;have IH:=qh (fun t v W (L:t∈args)=>ih t v W (Nat.lt_of_lt_of_le (Bo (e:=.mk o p l h g args) L) (Nat.le_of_lt_succ Q)));clear ih Q X;have J:=qh (hasOp_mk 9 o p l h g args);unfold Ac;simp only[Re.op,Re.set,Re.lo,Re.hi,Re.group,Re.args]at*;have a0:args.length<=9223372036854775807:=Nat.le_trans P N;have HO:=qh y;clear y;generalize Hb 9 (.mk o p l h g args)=R at*;generalize Sets.Aa p 0=x0 at*;generalize Sets.Aa p 1=x1 at*;generalize Sets.Aa p 2=x2 at*;generalize Sets.Aa p 3=x3 at*;have U:=qh (qb w (.cells #[.int .i64 o,.int .u64 x0,.int .u64 x1,.int .u64 x2,.int .u64 x3,.int .i64 l,.int .i64 h,.int .i64 g,.slice a args.length c] 28));have C:=qh (Box9.new w o x0 x1 x2 x3 l h g (.slice a args.length c) 28);by_cases y:o=9
  ·subst y
   go_enter func42,ntmps42;go_wp2;go_ret;exact⟨by rw[J.o];rfl,U.o⟩
  ·have a2:(o==9)=false:=by simp[y]
   rw[decide_eq_false y,Bool.false_or]at J;go_enter func42,ntmps42;go_wp2
   go_loopw [3] (fun i wr=>∃q:Nat,q<=args.length/\i=.int .i64 q/\qw w wr/\Box9 wr w.heap.size o x0 x1 x2 x3 l h g (.slice a args.length c)/\∀(j:Nat) t,j<q->args[j]? =some t->(!Hb 9 t)=true) (fun i _=>args.length-(intOf i).toNat)
   case atStart=>exact⟨0,Nat.zero_le _,rfl,U.o,C.o,fun j t O=>absurd O (Nat.not_lt_zero _)⟩
   case round=>
    obtain⟨q,hq,rfl,K,D,m⟩:=hrel;have T:=qh m;have M:=qh D;have x:=qh K;obtain⟨d0,d1,d2,d3,d4,d5,d6,d7,d8,d9⟩:=D;clear m;by_cases hlt:q<args.length
    ·obtain⟨t,v,b,off,L,hv,rfl,⟨k0,k1,k2,k3,k4,k5,k6,k7,k8⟩,I,E,Y⟩:=(HO.o.stays K).at hlt
     have S:(q:Int)< (args.length:Int):=by omega
     have A:=qh (IH.o t v wr Y E I);have B:=qh L;unfold Ac at A;clear L hv E I Y K;cases hty:Hb 9 t with
     |false=>
      rw[hty]at A
      go_wp2_with (go_at_call 42
                   (with_reducible refine A.o.mono ?_);rintro e w3 ⟨rfl,d⟩;have u:=qh (Ab x.o d);have z:=qh (M.o.stays d))
      go_roundw
      case rel=>exact⟨q+1,by omega,by go_num,u.o,z.o,fun j t' O G=>by
       by_cases hjq:j=q
       ·subst hjq
        rw[B.o]at G;cases G
        rw[hty];rfl
       · exact T.o j t' (by omega) G⟩
      case measure=>simp[intOf];omega
     |true=>
      rw[hty]at A
      go_wp2_with (go_at_call 42
                   (with_reducible refine A.o.mono ?_);rintro e w3 ⟨rfl,d⟩;have u:=qh (Ab x.o d))
      go_ret;exact⟨by rw[J.o,not_upto B.o (by rw[hty];rfl)];rfl,u.o⟩
    ·have S:¬(q:Int)< (args.length:Int):=by omega
     have a1:q=args.length:=by omega
     clear K;go_wp2;go_ret;exact⟨by rw[J.o,all_upto (fun j t O G=>T.o j t (by omega) G)];rfl,x.o⟩
end ReMem
namespace ReMem
open Go Go.RowKit MatchMath Strs
theorem Jz:∀a b:List Re,Bm (a++b)=max (Bm a) (Bm b)
 | [],b=>by rw[List.nil_append,Bm,Nat.zero_max]
 | x::r,b=>by rw[List.cons_append,Bm,Bm,Jz r b,Nat.max_assoc]
theorem Mq {l:List Re} {q:Nat} {t:Re} (h:l[q]? =some t):Bm (l.take (q+1))=max (Bm (l.take q)) (levels t):=by
 rw[Bt h,Jz,Bm,Bm,Nat.max_zero]
mutual
theorem Jm:∀e:Re,levels e<=size e
 | .mk _ _ _ _ _ args=>by
   have:=Ig args;rw[levels,size];omega
theorem Ig:∀l:List Re,Bm l<=sizes l
 | []=>by rw[Bm];exact Nat.zero_le _
 | x::r=>by
   have:=Jm x;have:=Ig r;rw[Bm,sizes];omega
end
theorem Zw (l:List Re) (q:Nat):Bm (l.take q)<=Bm l:=by
 have:=Jz (l.take q) (l.drop q);rw[List.take_append_drop]at this;omega
theorem Yj:∀(n:Nat) (e:Re) (v:Value) (w:World),size e<n->size e<=4096->Ag e->Lies w v e.args->
  Calls Tryz.prog 66 #[Ac v e] w fun r w'=>r=.returned (.int .i64 (levels e:Nat))/\qw w w':=by
 intro n
 induction n with
 | zero=>intro e v w O;omega
 |succ n ih=>
  intro e v w O hs V X;obtain⟨o,p,l,h,g,args⟩:=e;obtain⟨a,c,vs,rfl,⟨N,M⟩,ho⟩:=X.opened;have IH:=qh (fun t v W (J:t∈args)=>ih t v W (Nat.lt_of_lt_of_le (Bo (e:=.mk o p l h g args) J) (Nat.le_of_lt_succ O)) (Nat.le_of_lt (Nat.lt_of_lt_of_le (Bo (e:=.mk o p l h g args) J) hs)));clear ih O X;have S:Hid (levels (.mk o p l h g args)=Bm args+1):=by show _=_;rw[levels]
  have a2:Bm args<=4095:=by have:=S.o;have:=Jm (.mk o p l h g args);omega
  unfold Ac;simp only[Re.op,Re.set,Re.lo,Re.hi,Re.group,Re.args]at*;have a0:args.length<=9223372036854775807:=Nat.le_trans N M;have HO:=qh ho;clear ho;generalize levels (.mk o p l h g args)=R at*;generalize Sets.Aa p 0=x0 at*;generalize Sets.Aa p 1=x1 at*;generalize Sets.Aa p 2=x2 at*;generalize Sets.Aa p 3=x3 at*;have HB:=qh (qb w (.cells #[.int .i64 o,.int .u64 x0,.int .u64 x1,.int .u64 x2,.int .u64 x3,.int .i64 l,.int .i64 h,.int .i64 g,.slice a args.length c] 28));have C:=qh (Box9.new w o x0 x1 x2 x3 l h g (.slice a args.length c) 28);go_enter func66,ntmps66;go_wp2
  go_loopw [3,4] (fun m i wr=>∃q:Nat,q<=args.length/\i=.int .i64 q/\m=.int .i64 (Bm (args.take q):Nat)/\qw w wr/\Box9 wr w.heap.size o x0 x1 x2 x3 l h g (.slice a args.length c)) (fun _ i _=>args.length-(intOf i).toNat)
  case atStart=>exact⟨0,Nat.zero_le _,rfl,rfl,HB.o,C.o⟩
  case round=>
   obtain⟨q,hq,rfl,rfl,K,D⟩:=hrel;have A:=qh D;have x:=qh K;obtain⟨d0,d1,d2,d3,d4,d5,d6,d7,d8,d9⟩:=D;have a4:((Bm (args.take q):Nat):Int)<=4096:=by have:=Zw args q;omega
   have a3:(0:Int)<=((Bm (args.take q):Nat):Int):=by omega
   by_cases hlt:q<args.length
   ·obtain⟨t,v,b,off,J,hv,rfl,⟨k0,k1,k2,k3,k4,k5,k6,k7,k8⟩,G,E,Y⟩:=(HO.o.stays K).at hlt
    have P:(q:Int)< (args.length:Int):=by omega
    have L:=qh (IH.o t v wr Y E G);have I:=Mq J;have Q:=Zw args (q+1);have a6:(0:Int)<=((levels t:Nat):Int):=by omega
    have a5:((levels t:Nat):Int)<=4096:=by omega
    have B:=qh I;unfold Ac at L;clear J hv E G Y K I Q;generalize hz:((Bm (args.take q):Nat):Int)=z at*;generalize hy:((levels t:Nat):Int)=y at*;have U:=qh hz;have T:=qh hy;clear hz hy;by_cases hgt:z<y
    ·go_wp2_with (go_at_call 66
                  (with_reducible refine L.o.mono ?_);rintro e w3 ⟨rfl,j⟩;have u:=qh (Ab x.o j);have d:=qh (A.o.stays j))
     go_roundw
     case rel=>exact⟨q+1,by omega,by go_num,by have h1:=B.o;have h2:=U.o;have h3:=T.o;congr 1;omega,u.o,d.o⟩
     case measure=>simp[intOf];omega
    ·go_wp2_with (go_at_call 66
                  (with_reducible refine L.o.mono ?_);rintro e w3 ⟨rfl,j⟩;have u:=qh (Ab x.o j);have d:=qh (A.o.stays j))
     go_roundw
     case rel=>exact⟨q+1,by omega,by go_num,by have h1:=B.o;have h2:=U.o;have h3:=T.o;congr 1;omega,u.o,d.o⟩
     case measure=>simp[intOf];omega
   ·have P:¬(q:Int)< (args.length:Int):=by omega
    have a1:q=args.length:=by omega
    clear K;go_wp2;go_ret;exact⟨by rw[S.o,Int.natCast_add];rfl,x.o⟩
end ReMem
namespace ReMem
open Go Go.RowKit MatchMath Strs
theorem Wx (v:Value) (e:Re) (w:World):
  Calls Tryz.prog 87 #[Ac v e] w fun r w'=>r=.returned (.bool (counted e.lo e.hi))/\qw w w':=by
 obtain⟨o,p,l,h,g,args⟩:=e;unfold Ac;simp only[Re.op,Re.set,Re.lo,Re.hi,Re.group]at*;have a:Hid (counted l h=decide (0<=l/\l<=64/\(h= -1\/l<=h/\h<=64))):=rfl;generalize counted l h=R at*;generalize Sets.Aa p 0=x0 at*;generalize Sets.Aa p 1=x1 at*;generalize Sets.Aa p 2=x2 at*;generalize Sets.Aa p 3=x3 at*;have d:=qh (qb w (.cells #[.int .i64 o,.int .u64 x0,.int .u64 x1,.int .u64 x2,.int .u64 x3,.int .i64 l,.int .i64 h,.int .i64 g,v] 28));go_enter func87,ntmps87;go_wp2;all_goals go_ret
 all_goals refine⟨?_,qb w _⟩
 all_goals (have c:=a.o;clear a d;rw[c];clear c;refine congrArg (fun b=>Ending.returned (.bool b)) ?_)
 all_goals (first | (show false=_;symm;rw[decide_eq_false_iff_not]) | (show true=_;symm;rw[decide_eq_true_iff]) | rw[Bool.eq_iff_iff,decide_eq_true_iff])
 all_goals (first | omega | (simp at* <;> omega))
end ReMem
end Go.Proofs.YtjefcpjciogcjaaGreatDoor
