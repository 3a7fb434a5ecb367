/- Lemmas for the walk of the law, in 6 parts. No condition beyond what each states. -/
import Derived.Test.YtjefcpjciogcjaaGreatDoorG1
import Derived.Test.YtjefcpjciogcjaaGreatDoorG5
import Derived.Test.YtjefcpjciogcjaaGreatDoorG6
import Derived.Test.YtjefcpjciogcjaaGreatDoorG3
import Derived.Test.YtjefcpjciogcjaaGreatDoorG2
import Derived.Lib.AppendIntMem
import Derived.Test.YtjefcpjciogcjaaGreatDoorG0
import Derived.Lib.ItoaNum
namespace Go.Proofs.YtjefcpjciogcjaaGreatDoor
set_option maxRecDepth 100000
set_option linter.unusedVariables false
set_option maxHeartbeats 16000000
open Tryz
namespace ReMem
open Go Go.RowKit MatchMath
theorem report_info:(Tryz.prog.info? 60).map (fun i=>(i.zero,i.size,i.bytes))=some (some (.agg #[.int .i64 0,.int .i64 0]),2,16):=by kernel_rfl
def Gv (rs:List (Int×Int)):List Value:=rs.flatMap fun x=> [.int .i64 x.1,.int .i64 x.2]
theorem Yo (rs:List (Int×Int)) (x:Int×Int):Gv (rs++ [x])=Gv rs++ [.int .i64 x.1,.int .i64 x.2]:=by simp[Gv]
theorem Tk:∀(rs:List (Int×Int)) (j:Nat) (x:Int×Int),rs[j]? =some x->(Gv rs)[j*2]? =some (.int .i64 x.1)/\(Gv rs)[j*2+1]? =some (.int .i64 x.2)
 | [],j,x,h=>by simp at h
 |y::r,0,x,h=>by
  obtain rfl:y=x:=by simpa using h
  exact⟨rfl,rfl⟩
 |y::r,j+1,x,h=>by
  have a:=Tk r j x (by simpa using h);have e:Gv (y::r)= [.int .i64 y.1,.int .i64 y.2]++Gv r:=rfl;rw[e,List.getElem?_append_right (by simp;omega),List.getElem?_append_right (by simp;omega)];simp only[List.length_cons,List.length_nil];rw[show (j+1)*2-(0+1+1)=j*2 by omega,show (j+1)*2+1-(0+1+1)=j*2+1 by omega];exact a
def RR (w:World) (base:Nat) (v:Value) (rs:List (Int×Int)):Prop:=Own.Row w base 60 2 v rs.length (Gv rs)
theorem RR.nil (w:World) (base:Nat):RR w base (.slice none 0 0) []:=Own.Row.nil _ _ _ _
theorem RR.form {w:World} {base:Nat} {v:Value} {rs:List (Int×Int)} (h:RR w base v rs):∃a c,v=.slice a rs.length c:=Own.Row.form h
theorem RR.stays {w a:World} {base:Nat} {v:Value} {rs:List (Int×Int)} (h:RR w base v rs) (b:qw w a):RR a base v rs:=Own.Row.below h b
theorem RR.reps {w:World} {base:Nat} {v:Value} {rs:List (Int×Int)} (h:RR w base v rs):KSame.Reps w v rs:=by
 rcases h.2 with ⟨rfl,o⟩ | ⟨g,a,n,fz,rfl,r,l,q,e,d,p,i⟩
 ·obtain rfl:rs= []:=List.eq_nil_of_length_eq_zero o
  exact⟨none,0,rfl,⟨ql,Nat.zero_le _⟩,fun h=>absurd rfl h⟩
 ·refine⟨_,a,rfl,⟨e,d⟩,fun _=>⟨g,0,rfl,fun j x m=>?_⟩⟩
  obtain⟨b,c⟩:=Tk rs j x m;rw[<- i,List.getElem?_take]at b c;have t:j<rs.length:=(List.getElem?_eq_some_iff.1 m).1;rw[if_pos (by omega)]at b c;constructor
  ·rw[qc l,Nat.zero_add]
   simpa using b
  ·rw[qc l,Nat.zero_add]
   simpa using c
theorem reps_stays {w m:World} {v:Value} {rs:List (Int×Int)} (h:KSame.Reps w v rs) (g:qw w m):KSame.Reps m v rs:=by
 obtain⟨a,c,rfl,d,n⟩:=h;refine⟨a,c,rfl,d,fun e=>?_⟩;obtain⟨b,off,rfl,l⟩:=n e;exact⟨b,off,rfl,fun j x i=>⟨upc g (l j x i).1,upc g (l j x i).2⟩⟩
theorem reps_one (w:World) (x y:Int):KSame.Reps (w.alloc (.cells #[.int .i64 x,.int .i64 y] 60)) (.slice (some ⟨w.heap.size,0,none⟩) 1 1) [(x,y)]:=by
 have a:=heap_alloc_new w (.cells #[.int .i64 x,.int .i64 y] 60);refine⟨_,1,rfl,⟨ql,by unfold maxLen;omega⟩,fun _=>⟨w.heap.size,0,rfl,fun j z b=>?_⟩⟩;have e:j=0:=by
  have:=(List.getElem?_eq_some_iff.1 b).1;simp only[List.length_singleton]at this;omega
 subst e;obtain rfl:(x,y)=z:=by simpa using b
 exact⟨by rw[qc a];rfl,by rw[qc a];rfl⟩
theorem Fb {ops:Array Oper} {b:List Oper} {o:Oper} {a:Act} {Q:Exit->Act->World->Prop} (w:World) (e:o.guard=none) (s x:Operand) (t:TypeId) (q:Tryz.prog.underlying t=some (.slice 60))
  (m:o.op=.call {callee:=.builtin .append,args:=#[s,x],argTypes:=#[t,t]}) (base:Nat) (v:Value) (rs:List (Int×Int)) (p:a.eval s=v) (n:RR w base v rs)
  (z1 z2:Int) (k:Nat) (hk:w.heap.size=k) (hx:a.eval x=.slice (some ⟨k,0,none⟩) 1 1) (hn:rs.length+1<=1099511627776) (hb:base<=k)
  (h:∀d c,RR c base d (rs++ [(z1,z2)])->Chg (fun k=>some k=v.ownBlock) w c->wpList Tryz.prog ops Q b (a.put o.dst d) c):wpList Tryz.prog ops Q (o::b) a (w.alloc (.cells #[.int .i64 z1,.int .i64 z2] 60)):=by
 obtain⟨r,hi,g,i,j⟩:=info_parts report_info;refine Bg w e s x t m base 60 r _ 2 16 q hi g i j rfl (by decide) v rs.length (Gv rs) p n [.int .i64 z1,.int .i64 z2] rfl (by simp[Value.oneCell']) k hk hx (by unfold maxLen;omega) (by omega) hb fun d c hr l _=>?_;refine h d c ?_ l;unfold RR;rw[Yo,List.length_append];exact hr
def RB (w:World) (b base:Nat) (rs:List (Int×Int)):Prop:=∃v,w.heap[b]? =some (.cells #[v] 63)/\RR w base v rs/\b<base/\base<=w.heap.size
theorem RB.stays {w d:World} {b base:Nat} {rs:List (Int×Int)} (h:RB w b base rs) (a:qw w d):RB d b base rs:=by
 obtain⟨v,c,e,g,i⟩:=h;exact⟨v,(a.block _ (qd c)).trans c,e.stays a,g,Nat.le_trans i a.size⟩
theorem RB.cell {w:World} {b base:Nat} {rs:List (Int×Int)} (h:RB w b base rs):∃a c,w.cell? ⟨b,0,none⟩=some (.slice a rs.length c)/\w.frozen? ⟨b,0,none⟩=false/\w.heap[b]? =some (.cells #[.slice a rs.length c] 63)/\RR w base (.slice a rs.length c) rs/\b<base/\base<=w.heap.size:=by
 obtain⟨v,d,e,g,i⟩:=h;obtain⟨a,c,rfl⟩:=e.form;exact⟨a,c,by rw[qc d];rfl,by unfold World.frozen?;rw[d];simp,d,e,g,i⟩
structure AD (b:Nat) (w w':World):Prop where
 below:Below b w w'
 keep:∀(k:Nat) (cur:Array Value) (T:TypeId) (fz:Nat×Nat),T≠60->k≠b->w.heap[k]? =some (Obj.cells cur T fz)->w'.heap[k]? =w.heap[k]?
theorem Fs (b base:Nat) (rs:List (Int×Int)) (g j:Int) (w:World) (h:RB w b base rs) (V:0<=j) (K:rs.length<=1000):
  Calls Tryz.prog 17 #[.pointer (some ⟨b,0,none⟩),.int .i64 g,.int .i64 j] w fun r w'=>r=.returned (.tuple #[])/\RB w' b base (rs++ [(g,j)])/\AD b w w':=by
 obtain⟨a,c,c0,W,I,B,y,z⟩:=h.cell;have HG:=qh I;have HR:=qh B;have d:=qh y;have l:=qh z;have L:=qh K;clear h I B y z K;go_enter func17,ntmps17;go_wp2_with (first
  | (at_builtin
     refine Fb _ rfl _ _ 63 underlying63 rfl base (.slice a rs.length c) rs (by rfl) HR.o g j _ rfl (by rfl) (by have:=L.o;omega) l.o ?_;intro S C D p;have u:=qh D;have q:¬some b=(Value.slice a rs.length c).ownBlock:=fun e=>by have:=(Own.Row.lt HR.o b e.symm).1;have:=d.o;omega
     have i:=(p.block b (qd HG.o) q).trans HG.o;have n:=qh i;have m:=qh p;have M:=qh q;have c7:C.cell? ⟨b,0,none⟩=some (.slice a rs.length c):=by rw[qc i];rfl
     have X:C.frozen? ⟨b,0,none⟩=false:=by unfold World.frozen?;rw[i];simp
     obtain⟨G,x,rfl⟩:∃a c,S=.slice a (rs.length+1) c:=by have:=D.form;rwa [List.length_append]at this
     clear D p i q))
 go_end0;have R:=(qd n.o);have E:=Chg.setCell C b 0 (.slice G (rs.length+1) x);refine⟨rfl,⟨.slice G (rs.length+1) x,?_,Row.chg u.o E (fun k A e=>?_),d.o,Nat.le_trans (Nat.le_trans l.o m.o.size) E.size⟩,⟨?_,fun k N T fz Q A J=>?_⟩⟩
 ·rw[setCell_eq_setRow C b _ _ _ _ _ n.o,setRow_heap C b _ _ _ _ n.o]
  rfl
 ·have O:=(Own.Row.lt u.o k A).1
  have P:=d.o;omega
 · exact (m.o.below (by have:=d.o;have:=l.o;omega) (fun k A e=>by have O:=(Own.Row.lt HR.o k e.symm).1;have P:=d.o;omega)).trans (E.below (by omega) (fun k A e=>by omega))
 ·rw[Below.heap_setCell _ _ _ _ (show k≠b from A)]
  refine m.o.block k (qd J) (fun e=>?_);obtain⟨c1,U,t⟩:=Fl HR.o k e.symm;rw[J]at t;injection t with t;injection t with _ t _;exact Q t
def MLies (w:World) (v:Value) (l:List (List Span)):Prop:=∃a c,v=.slice a l.length c/\(l.length<=c/\c<=maxLen)/\(l≠ []->∃b off,a=some ⟨b,off,none⟩/\∀(j:Nat) (m:List Span),l[j]? =some m->∃sv,w.cell? ⟨b,off+j,none⟩=some sv/\SpRd w sv m)
theorem MLies.stays {w i:World} {v:Value} {l:List (List Span)} (h:MLies w v l) (g:qw w i):MLies i v l:=by
 obtain⟨a,c,rfl,d,q⟩:=h;refine⟨a,c,rfl,d,fun e=>?_⟩;obtain⟨b,off,rfl,r⟩:=q e;exact⟨b,off,rfl,fun j m p=>by obtain⟨t,n,o⟩:=r j m p;exact⟨t,upc g n,o.stays g⟩⟩
theorem MLies.shape {w:World} {v:Value} {l:List (List Span)} (h:MLies w v l):∃a c,v=.slice a l.length c:=by obtain⟨a,c,rfl, -⟩:=h;exact⟨a,c,rfl⟩
theorem MLies.at {w:World} {a:Option Addr} {n c:Nat} {l:List (List Span)} (h:MLies w (.slice a n c) l) {j:Nat} {m:List Span} (d:l[j]? =some m):∃b off sv,a=some ⟨b,off,none⟩/\w.cell? ⟨b,off+j,none⟩=some sv/\SpRd w sv m:=by
 obtain⟨r,t,e,o,p⟩:=h;injection e with e1 e2 e3;subst e1;obtain⟨b,off,rfl,q⟩:=p (by intro e;subst e;simp at d);obtain⟨sv,g,i⟩:=q j m d;exact⟨b,off,sv,rfl,g,i⟩
theorem MLies.len {w:World} {a:Option Addr} {n c:Nat} {l:List (List Span)} (h:MLies w (.slice a n c) l):n=l.length/\l.length<=c/\c<=maxLen:=by
 obtain⟨d,g,e,b,i⟩:=h;injection e with e1 e2 e3;subst e3;exact⟨e2,b⟩
def FewRes (w:World) (l:List (List Span)) (r:Ending) (w':World):Prop:=(∃z,r=.returned (.bool z)/\(z=true->l.length<=20))/\qw w w'
theorem few_any (v:Value) (l:List (List Span)) (w:World) (h:MLies w v l):
  Calls Tryz.prog 5 #[v] w (FewRes w l):=by
 obtain⟨a,c,rfl⟩:=h.shape;have p:(l.length:Int)<=9223372036854775807:=by have d:=h.len.2;unfold maxLen at d;omega
 have H:=qh h;clear h;go_enter func5,ntmps5;go_wp2
 go_loopw [3] (fun m wr=>∃i:Nat,i<=21/\m=.int .i64 i/\qw w wr) (fun m _=>21-(intOf m).toNat)
 case atStart=>exact⟨0,by omega,rfl,Below.refl _ _⟩
 case round=>
  obtain⟨i,hi,rfl,g⟩:=hrel;have j:=qh g;by_cases d:i<l.length
  ·have r:(i:Int)< (l.length:Int):=by omega
   by_cases h2:i<21
   ·have t:(i:Int)<21:=by omega
    have n:=qh h2;have q:l[i]? =some l[i]:=List.getElem?_eq_getElem d;obtain⟨b,off,A,rfl,B,e⟩:=(H.o.stays g).at q;obtain⟨y,z,rfl⟩:=e.shape;have u:(l[i].length:Int)<=9223372036854775807:=by have d:=e.len.2;unfold maxLen at d;omega
    clear q e g;generalize l[i].length=N at*;by_cases h3:12< (N:Int)
    ·clear d h2 hi
     go_wp2;go_ret;exact⟨⟨false,rfl,fun h=>by cases h⟩,j.o⟩
    ·clear d h2 hi
     go_wp2;go_roundw
     case rel=>exact⟨i+1,n.o,by go_num,j.o⟩
     case measure=>have:=n.o;simp[intOf];omega
   ·have t:¬(i:Int)<21:=by omega
    have x:¬(l.length:Int)<=20:=by omega
    clear d h2 hi g;go_wp2;go_ret;exact⟨⟨_,rfl,fun h=>by cases h⟩,j.o⟩
  ·have r:¬(i:Int)< (l.length:Int):=by omega
   clear d hi g;go_wp2;go_ret;exact⟨⟨_,rfl,fun h=>by have:=of_decide_eq_true h;omega⟩,j.o⟩
end ReMem
namespace ReMem
open Go Go.RowKit MatchMath
inductive LiesB (B:Nat->Prop) (w:World):Value->List Re->Prop
 | mk (a:Option Addr) (c:Nat) (ts:List Re) (vs:List Value) (hl:vs.length=ts.length) (hc:ts.length<=c/\c<=maxLen) (hf:∀t∈ts,Ag t)
  (hcell:ts≠ []->∃b off,B b/\a=some ⟨b,off,none⟩/\∀j t v,ts[j]? =some t->vs[j]? =some v->∀i u,(Bi v t)[i]? =some u->w.cell? ⟨b,off+9*j+i,none⟩=some u)
  (hsub:∀(j:Nat) (t:Re) (v:Value),ts[j]? =some t->vs[j]? =some v->LiesB B w v t.args):LiesB B w (.slice a ts.length c) ts
theorem LiesB.lies {B:Nat->Prop} {w:World} {v:Value} {d:List Re} (h:LiesB B w v d):Lies w v d:=by
 induction h with
 | mk a c d vs hl hc hf hcell hsub ih=>exact .mk a c d vs hl hc hf (fun g=>by obtain⟨b,off, -,e,i⟩:=hcell g;exact⟨b,off,e,i⟩) ih
theorem LiesB.mono {B D:Nat->Prop} {w:World} {v:Value} {g:List Re} (h:LiesB B w v g) (m:∀b,b<w.heap.size->B b->D b):LiesB D w v g:=by
 induction h with
 |mk a c g vs hl hc hf hcell hsub ih=>
  refine .mk a c g vs hl hc hf (fun d=>?_) ih;obtain⟨b,off,l,e,i⟩:=hcell d;obtain⟨t,n⟩:∃t,g[0]? =some t:=⟨_,List.getElem?_eq_getElem (List.length_pos_iff.2 d)⟩;obtain⟨u,o⟩:∃u,vs[0]? =some u:=⟨_,List.getElem?_eq_getElem (by rw[hl];exact List.length_pos_iff.2 d)⟩;have j:=World.block_lt_of_cell? w _ (i 0 t u n o 0 _ rfl);exact⟨b,off,m b j l,e,i⟩
theorem LiesB.chg {B C:Nat->Prop} {w m:World} {v:Value} {d:List Re} (h:LiesB B w v d) (n:Chg C w m) (p:∀b,B b->¬C b):LiesB B m v d:=by
 induction h with
 |mk a c d vs hl hcc hf hcell hsub ih=>
  refine .mk a c d vs hl hcc hf (fun g=>?_) ih;obtain⟨b,off,l,e,x⟩:=hcell g;exact⟨b,off,l,e,fun j t v o r i u q=>n.cell (x j t v o r i u q) (p b l)⟩
theorem LiesB.stays {B:Nat->Prop} {w b:World} {v:Value} {a:List Re} (h:LiesB B w v a) (c:qw w b):LiesB B b v a:=h.chg (Chg.of (C:=fun _=>False) c) (fun _ _ h=>h)
theorem LiesB.nil (B:Nat->Prop) (w:World):LiesB B w (.slice none 0 0) []:=.mk none 0 [] [] rfl ⟨ql,Nat.zero_le _⟩ (fun t h=>by cases h) (fun h=>absurd rfl h) fun j t v hj=>by simp at hj
end ReMem
namespace ReMem
open Go Go.RowKit MatchMath
def Dr (l:List Re) (vs:List Value):List Value:=(l.zip vs).flatMap fun x=>Bi x.2 x.1
theorem Ol {l m:List Re} {a b:List Value} (h:a.length=l.length):Dr (l++m) (a++b)=Dr l a++Dr m b:=by
 unfold Dr;rw[List.zip_append h.symm,List.flatMap_append]
theorem Ll:∀(l:List Re) (a:List Value),a.length=l.length->(Dr l a).length=l.length*9
 | [],[],_=>rfl
 |y::r,u::s,h=>by
  have h1:=Ll r s (by simpa using h);show (Bi u y++Dr r s).length=_;rw[List.length_append,h1,List.length_cons];show 9+_=_;omega
theorem Rt:∀(l:List Re) (a:List Value) (j:Nat) (t:Re) (v:Value),l[j]? =some t->a[j]? =some v->∀i u,(Bi v t)[i]? =some u->(Dr l a)[9*j+i]? =some u
 | [],_,j,x,v,h,_,_,_,_=>by simp at h
 | _::_,[],j,x,v,_,h,_,_,_=>by simp at h
 |y::r,u::s,0,x,v,h,k,i,z,hz=>by
  obtain rfl:y=x:=by simpa using h
  obtain rfl:u=v:=by simpa using k
  have hi:i< (Bi u y).length:=(List.getElem?_eq_some_iff.1 hz).1;show (Bi u y++Dr r s)[9*0+i]? =_;rw[List.getElem?_append_left (by omega),Nat.mul_zero,Nat.zero_add];exact hz
 |y::r,u::s,j+1,x,v,h,k,i,z,hz=>by
  have b:=Rt r s j x v (by simpa using h) (by simpa using k) i z hz;show (Bi u y++Dr r s)[9*(j+1)+i]? =_;have c:(Bi u y).length=9:=rfl;rw[List.getElem?_append_right (by omega),c,show 9*(j+1)+i-9=9*j+i by omega];exact b
def TRow (B:Nat->Prop) (w:World) (base:Nat) (v:Value) (l:List Re):Prop:=∃vs:List Value,vs.length=l.length/\Own.Row w base 28 9 v l.length (Dr l vs)/\(∀t∈l,Ag t)/\∀(j:Nat) (t:Re) (u:Value),l[j]? =some t->vs[j]? =some u->LiesB (fun b=>B b/\some b≠v.ownBlock) w u t.args
theorem TRow.nil (B:Nat->Prop) (w:World) (base:Nat):TRow B w base (.slice none 0 0) []:=⟨[],rfl,Own.Row.nil _ _ _ _,(fun t h=>by cases h),fun j p sv h=>by simp at h⟩
theorem TRow.form {B:Nat->Prop} {w:World} {base:Nat} {v:Value} {l:List Re} (h:TRow B w base v l):∃a c,v=.slice a l.length c:=by
 obtain⟨g,d,hr,b,e⟩:=h;exact hr.form
theorem TRow.lt {B:Nat->Prop} {w:World} {base:Nat} {v:Value} {l:List Re} (h:TRow B w base v l):∀k,v.ownBlock=some k->base<=k/\k<w.heap.size:=by
 obtain⟨d,b,hr,a,c⟩:=h;exact hr.lt
theorem TRow.lies {B:Nat->Prop} {w:World} {base:Nat} {v:Value} {l:List Re} (h:TRow B w base v l) (x:∀b,base<=b->B b):LiesB B w v l:=by
 obtain⟨p,E,hr,A,I⟩:=h;rcases hr.2 with ⟨rfl,r⟩ | ⟨g,c,q,fz,rfl,y,D,C,m,d,z,n⟩
 ·have:l= []:=List.eq_nil_of_length_eq_zero r
  subst this;exact LiesB.nil B w
 ·refine .mk _ c l p E ⟨m,d⟩ A (fun G=>⟨g,0,x g y,rfl,fun j t v e o i u J=>?_⟩) (fun j t u e o=>(I j t u e o).mono (fun b _ h=>h.1))
  have a:=Rt l p j t v e o i u J;rw[<- n,List.getElem?_take]at a;split at a
  ·rw[qc D,Nat.zero_add]
   simpa using a
  · cases a
theorem TRow.more {B:Nat->Prop} {w p:World} {base:Nat} {v i:Value} {l:List Re} {o:List Value} {t:Re} {u:Value} (D:o.length=l.length) (J:∀t∈l,Ag t) (A:Ag t)
  (L:∀(j:Nat) (t:Re) (u:Value),l[j]? =some t->o[j]? =some u->LiesB (fun b=>B b/\some b≠v.ownBlock) w u t.args) (M:LiesB (fun b=>B b/\some b≠v.ownBlock) w u t.args)
  (hr:Own.Row p base 28 9 i (l.length+1) (Dr l o++Bi u t)) (I:Chg (fun k=>some k=v.ownBlock) w p) (K:Near w.heap.size v i):TRow B p base i (l++ [t]):=by
 have g:∀ {x:Value} {n:List Re},LiesB (fun b=>B b/\some b≠v.ownBlock) w x n->LiesB (fun b=>B b/\some b≠i.ownBlock) p x n:=fun {x n} h=>by
  have E:LiesB (fun b=>(B b/\some b≠i.ownBlock)/\some b≠v.ownBlock) w x n:=h.mono fun b m y=>⟨⟨y.1,fun e=>by
   rcases K with r | r
   · exact y.2 (by rw[<- r];exact e)
   ·have:=r b e.symm
    omega⟩,y.2⟩
  have G:=E.chg I (fun b m e=>m.2 e);exact G.mono fun b _ m=>m.1
 refine⟨o++ [u],by simp[D],?_,fun x c=>?_,fun j q z a d=>?_⟩
 ·rw[Ol D,List.length_append]
  have e:Dr [t] [u]=Bi u t:=by simp[Dr]
  rw[e];exact hr
 ·rcases List.mem_append.1 c with c | c
  · exact J x c
  ·obtain rfl:=List.mem_singleton.1 c
   exact A
 ·by_cases hjl:j<l.length
  ·rw[List.getElem?_append_left hjl]at a
   rw[List.getElem?_append_left (by omega)]at d;exact g (L j q z a d)
  ·have C:j< (l++ [t]).length:=(List.getElem?_eq_some_iff.1 a).1
   simp only[List.length_append,List.length_singleton]at C;have e:j=l.length:=by omega
   subst e;rw[List.getElem?_append_right ql]at a;rw[List.getElem?_append_right (by omega)]at d;simp[D]at a d;subst a d;exact g M
end ReMem
namespace ReMem
open Go Go.RowKit MatchMath
structure Tabs (w:World):Prop where
 pow:Lib.TabIs Tryz.prog w "internal/strconv.uint64pow10" .u64 Lib.pow10Tab
 n0:w.cell? ⟨0,0,none⟩=some (.int .i64 (-1))
 n1:w.cell? ⟨0,1,none⟩=some (.int .i64 (-1))
theorem Tabs.stays {w b:World} (h:Tabs w) (a:qw w b):Tabs b:=
 ⟨Lib.tabBelow_of_tabIs h.pow _ a,by rw[a.cell (World.block_lt_of_cell? w _ h.n0)];exact h.n0,by rw[a.cell (World.block_lt_of_cell? w _ h.n1)];exact h.n1⟩
theorem Tabs.below {w a:World} (h:Tabs w) (b:qw w a):Lib.TabBelow Tryz.prog w.heap.size a "internal/strconv.uint64pow10" .u64 Lib.pow10Tab:=(Lib.tabBelow_of_tabIs h.pow).on b
end ReMem
namespace MatchMath
open Go.Lib
def valD (l:List UInt8):Nat:=l.foldl (fun d b=>10*d+(b.toNat-48)) 0
theorem Pu {u:Nat} (h:u<10):(UInt8.ofNat (48+u)).toNat=48+u:=by
 rw[UInt8.toNat_ofNat'];omega
theorem Tz (u:Nat):valD (decDigits u)=u:=by
 induction u using Nat.strongRecOn with
 |_ u ih=>
  rw[decDigits];by_cases h:u<10
  ·rw[dif_pos h]
   show 10*0+((UInt8.ofNat (48+u)).toNat-48)=u;rw[Pu h];omega
  ·rw[dif_neg h]
   have:=Pu (Nat.mod_lt u (show 0<10 by decide));unfold valD at*;rw[List.foldl_append,ih (u/10) (by omega)];simp only[List.foldl_cons,List.foldl_nil,this];omega
theorem La (u:Nat):∀b∈decDigits u,48<=b.toNat/\b.toNat<=57:=by
 induction u using Nat.strongRecOn with
 |_ u ih=>
  rw[decDigits];by_cases h:u<10
  ·rw[dif_pos h]
   intro b a;obtain rfl:=List.mem_singleton.1 a;rw[Pu h];omega
  ·rw[dif_neg h]
   intro b a;rcases List.mem_append.1 a with a | a
   · exact ih (u/10) (by omega) b a
   ·obtain rfl:=List.mem_singleton.1 a
    rw[Pu (Nat.mod_lt u (by decide))];have:=Nat.mod_lt u (show 0<10 by decide);omega
theorem Oc {u v:Nat} (h:decDigits u=decDigits v):u=v:=by rw[<- Tz u,h,Tz]
theorem Sp {u:Nat} {l:List UInt8} (h:decDigits u=45::l):False:=by
 have:=La u 45 (by rw[h];simp);have e:(45:UInt8).toNat=45:=rfl;omega
theorem itoa_inj {a b:Int} (h:itoa a=itoa b):a=b:=by
 unfold itoa at h;by_cases ha:a<0
 ·rw[if_pos ha]at h
  by_cases hb:b<0
  ·rw[if_pos hb]at h
   injection h with _ h;have:=Oc h;omega
  ·rw[if_neg hb]at h
   exact absurd h.symm fun e=>Sp e
 ·rw[if_neg ha]at h
  by_cases hb:b<0
  ·rw[if_pos hb]at h
   exact absurd h fun e=>Sp e
  ·rw[if_neg hb]at h
   have:=Oc h;omega
theorem Ie (a:Int):(32:UInt8)∉itoa a:=by
 intro h;have e:(32:UInt8).toNat=32:=rfl;unfold itoa at h;split at h
 ·rcases List.mem_cons.1 h with h | h
  · cases h
  ·have:=La _ _ h
   omega
 ·have:=La _ _ h
  omega
def blanks (l:List Int):List UInt8:=l.flatMap fun n=>32::itoa n
theorem Nb:∀(a b x y:List UInt8),32∉a->32∉b->(x= []\/∃r,x=32::r)->(y= []\/∃r,y=32::r)->a++x=b++y->a=b/\x=y
 | [],[],x,y,_,_,_,_,h=>⟨rfl,h⟩
 | [],c::b,x,y,_,hb,hx,_,h=>by
   rcases hx with rfl | ⟨r,rfl⟩
   · simp at h
   ·simp only[List.nil_append,List.cons_append,List.cons.injEq]at h
    exact absurd (by rw[h.1];simp) hb
 | c::a,[],x,y,ha,_,_,hy,h=>by
   rcases hy with rfl | ⟨r,rfl⟩
   · simp at h
   ·simp only[List.nil_append,List.cons_append,List.cons.injEq]at h
    exact absurd (by rw[<- h.1];simp) ha
 | c::a,d::b,x,y,ha,hb,hx,hy,h=>by
   simp only[List.cons_append,List.cons.injEq]at h;obtain⟨e,k⟩:=Nb a b x y (fun hm=>ha (by simp[hm])) (fun hm=>hb (by simp[hm])) hx hy h.2;exact⟨by rw[h.1,e],k⟩
theorem Jg (l:List Int):blanks l= []\/∃r,blanks l=32::r:=by
 cases l with
 | nil=>exact .inl rfl
 | cons n r=>exact .inr ⟨itoa n++blanks r,rfl⟩
theorem Vc:∀(l m:List Int),blanks l=blanks m->l=m
 | [],[],_=>rfl
 | [],n::m,h=>by cases h
 | n::l,[],h=>by cases h
 |n::l,k::m,h=>by
  have h':itoa n++blanks l=itoa k++blanks m:=by
   have:(32:UInt8)::(itoa n++blanks l)=32::(itoa k++blanks m):=h;injection this
  obtain⟨a,b⟩:=Nb _ _ _ _ (Ie n) (Ie k) (Jg l) (Jg m) h';rw[itoa_inj a,Vc l m b]
def flat (l:List Span):List Int:=l.flatMap fun x=> [x.1,x.2]
theorem flat_inj:∀(l m:List Span),flat l=flat m->l=m
 | [],[],_=>rfl
 | [],_::_,h=>by cases h
 | _::_,[],h=>by cases h
 |(a,b)::l,(c,d)::m,h=>by
  have h':a::b::flat l=c::d::flat m:=h;injection h' with e1 h';injection h' with e2 h';rw[e1,e2,flat_inj l m h']
def Bl (p:Parse):List UInt8:=itoa (p.1:Int)++blanks (flat p.2)
theorem Tc {p q:Parse} (h:Bl p=Bl q):p=q:=by
 obtain⟨d,e⟩:=Nb _ _ _ _ (Ie _) (Ie _) (Jg _) (Jg _) h;have g:=itoa_inj d;have c:=flat_inj _ _ (Vc _ _ e);obtain⟨a,l⟩:=p;obtain⟨b,m⟩:=q;simp only at g c;rw[c,show a=b by omega]
end MatchMath
namespace ReMem
open Go Go.RowKit MatchMath Strs
theorem up9 {w W:World} {p:Addr} {u:Value} (a:qw w W) (h:w.cell? p=some u):W.cell? p=some u:=by rw[a.cell (World.block_lt_of_cell? w p h)];exact h
theorem refCat_any (s:ByteArray) (g:Bool) (k n:Nat) (hp:Uv s g k n) (args:List Re) (v sv:Value) (i:Nat) (l:List Span) (w:World) (b5:∀t∈args,size t<n) (i3:gokL k args=true) (hl:Lies w v args) (hs:Al w sv l) (i4:l.length=k) (i7:SpOk s.size l) (hi:i<=s.size) (f3:s.size<=4096):
  Calls Tryz.prog 132 #[.agg #[.string s,.bool g],v,.int .i64 i,sv] w (RRes w ((Cs ((tx s g).parsesL args) [(i,l)]).bind (done s.size))):=by
 obtain⟨a,c,vs,rfl,⟨n7,n4⟩,ho⟩:=hl.opened;obtain⟨sa,sc,rfl⟩:=hs.shape;have p4:args.length<=9223372036854775807:=Nat.le_trans n7 n4;have HP:=qh (fun t v sv i l w (ht:t∈args)=>hp t v sv i l w (b5 t ht) (Bk i3 ht));have HO:=qh ho;have HS:=qh hs;have m3:=qh i7;have k0:=qh i4;have p2:=qh f3;have f8:=qh Iy;have e4:=qh (fun v l W=>Jr s g v l W f3);have o6:l.length<=9223372036854775807:=Nat.le_trans hs.len.2.1 hs.len.2.2;obtain⟨R,hR⟩:∃R,(Cs ((tx s g).parsesL args) [(i,l)])=R:=⟨_,rfl⟩;rw[hR];have HR:=qh hR;have a1:=qh (fun t=>Dd (tx s g) t);have i6:(tx s g).s.length=s.size:=Ce s;rw[i6]at a1;clear i6 hp ho hs i7 i4 hl hR b5 i3 f3;have e0:=qh (qb w (.cells #[.string s,.bool g] 153));have m6:=qh (TBox.new w s g 153);have m4:Hid (PRow ((w.alloc (.cells #[.string s,.bool g] 153)).alloc (.cells #[.int .i64 (i:Int),.slice sa l.length sc] 119)) (w.heap.size+1) (.slice (some ⟨w.heap.size+1,0,none⟩) 1 1) [(i,l)]):=by
  have:=PRow.one (w.alloc (.cells #[.string s,.bool g] 153)) (i,l) (.slice sa l.length sc) (HS.o.stays e0.o);rw[show (w.alloc (.cells #[.string s,.bool g] 153)).heap.size=w.heap.size+1 from by simp]at this;exact this
 have j8:=qh (e0.o.alloc e0.o.size (.cells #[.int .i64 (i:Int),.slice sa l.length sc] 119));have m7:Hid (TBox ((w.alloc (.cells #[.string s,.bool g] 153)).alloc (.cells #[.int .i64 (i:Int),.slice sa l.length sc] 119)) w.heap.size s g):=m6.o.chg (Chg.alloc (fun _=>False) _ _) (fun h=>h);have h2:Hid (w.heap.size+1<=((w.alloc (.cells #[.string s,.bool g] 153)).alloc (.cells #[.int .i64 (i:Int),.slice sa l.length sc] 119)).heap.size):=by show _<=_;simp
 go_enter func132,ntmps132;go_wp2
 go_loopw [10,11] (fun o ia wr=>∃(q:Nat) (ov:Value) (d:List Parse),q<=args.length/\ia=.int .i64 q/\ov=o/\PRow wr (w.heap.size+1) ov d/\GoodL s.size k i d/\Cs ((tx s g).parsesL (args.drop q)) d=R/\qw w wr/\TBox wr w.heap.size s g/\w.heap.size+1<=wr.heap.size) (fun _ ia _=>args.length-(intOf ia).toNat)
 case atStart=>exact⟨0,_,_,Nat.zero_le _,rfl,rfl,m4.o,GoodL.one ⟨ql,hi,k0.o,m3.o⟩,by rw[List.drop_zero];exact HR.o,j8.o,m7.o,h2.o⟩
 case round=>
  rename World=>wm
  obtain⟨q,ov,d,hq,rfl,rfl,P,f0,i0,C,K,b5⟩:=hrel;have o5:=f0.len;have g9:=qh P;have g3:=qh f0;have g1:=qh i0;have b4:=qh C;have m8:=qh K;obtain⟨oa,oc,rfl⟩:=P.form;have n8:(d.length:Int)<=4096:=by omega
  obtain⟨t0,t1, -⟩:=K;clear P f0 i0;by_cases hlt:q<args.length
  ·have o0:(q:Int)< (args.length:Int):=by omega
   have e5:=qh hlt;have hz:args[q]? =some args[q]:=List.getElem?_eq_getElem hlt;have HZ:=qh hz;have S:Hid ((Df ((tx s g).parses args[q]) d []).bind (Cs ((tx s g).parsesL (args.drop (q+1))))=R):=by
    show _=_;have h1:=g1.o;rw[Ga hz,Text.parsesL,catFrom_cons]at h1;exact h1
   clear C hz;go_wp2
   go_loopw [12,13] (fun nx ib b1=>∃(k2:Nat) (nv:Value) (z:List Parse),k2<=d.length/\ib=.int .i64 k2/\nv=nx/\PRow b1 (w.heap.size+1) nv z/\GoodL s.size k i z/\Df ((tx s g).parses args[q]) d []=Df ((tx s g).parses args[q]) (d.drop k2) z/\PRow b1 (w.heap.size+1) (.slice oa d.length oc) d/\Apart (.slice oa d.length oc) nv/\qw w b1/\TBox b1 w.heap.size s g/\w.heap.size+1<=b1.heap.size) (fun _ ib _=>d.length-(intOf ib).toNat)
   case atStart=>exact⟨0,_,[],Nat.zero_le _,rfl,rfl,PRow.nil _ _,GoodL.nil _ _ _,by rw[List.drop_zero],g9.o,Apart.nil _,b4.o,m8.o,b5⟩
   case round=>
    clear t0 t1;obtain⟨k2,nv,z,p5,rfl,rfl,O,a6,d9,a7,h8,C,K,a8⟩:=hrel;have n9:=a6.len;have e6:=qh O;have a3:=qh a6;have J:=qh d9;have g7:=qh a7;have j7:=qh h8;have Y:=qh C;have b7:=qh K;obtain⟨na,nc,rfl⟩:=O.form;obtain⟨t0,t1, -⟩:=K;clear O a6 d9 a7 h8;by_cases hkt:k2<d.length
    ·have n6:(k2:Int)< (d.length:Int):=by omega
     have f5:d[k2]? =some d[k2]:=List.getElem?_eq_getElem hkt;obtain⟨b2,E,p7,e2,c1,c2,T⟩:=g7.o.lies.at f5;obtain⟨j2,j3,rfl⟩:=T.shape;have I:=g3.o.ok _ (List.getElem_mem hkt);have u:Hid (Df ((tx s g).parses args[q]) (d.drop k2) z=((tx s g).parses args[q] d[k2].1 d[k2].2).bind fun m=>if most< (An z m).length then none else Df ((tx s g).parses args[q]) (d.drop (k2+1)) (An z m)):=by
      show _=_;rw[Ga f5,Df]
     obtain⟨t,tv,b,off,ht,hv,e1,⟨x0,x1,x2,x3,x4,x5,x6,x7,x8⟩,f1,i2,hm⟩:=(HO.o.stays C).at e5.o;subst e1;subst e2;have f4:args[q]=t:=by have:=HZ.o;rw[ht]at this;exact (Option.some.inj this).symm
     have m9:=qh f4;rw[f4]at u J S;have a5:=qh (fun W (r:qw wr W)=>HP.o t tv _ d[k2].1 d[k2].2 W hm i2 (f1.stays r) (T.stays r) I.2.2.1 I.2.2.2 I.2.1);have o9:=T.len.2;unfold Ac at a5;obtain⟨j4,j5,rfl⟩:=f1.shape;have b6:=qh (fun m (hm:(tx s g).parses t d[k2].1 d[k2].2=some m) (p:Parse) (hpm:p∈m)=>(by have h1:=a1.o t d[k2].1 d[k2].2 m I.2.1 I.2.2.2 hm p hpm;rw[I.2.2.1]at h1;exact h1.mono I.1:POk s.size k i p));have o7:0<=(d[k2].1:Int):=by omega
     have o8:(d[k2].1:Int)<=(s.size:Int):=by have:=I.2.1;omega
     clear f5 T I ht hv f1 i2 hm f4 C;generalize d[k2]=p at*;obtain⟨pe,f7⟩:=p;simp only at*;cases hf:(tx s g).parses t pe f7 with
     |none=>
      rw[hf]at a5 u;have e8:Hid (R=none):=by show _=_;rw[<- S.o,J.o,u.o];rfl
      clear hf;have M:=qh (fun W (r:qw wr W)=>And.intro (up9 r t0) (And.intro (up9 r t1) (And.intro (up9 r x0) (And.intro (up9 r x1) (And.intro (up9 r x2) (And.intro (up9 r x3) (And.intro (up9 r x4) (And.intro (up9 r x5) (And.intro (up9 r x6) (And.intro (up9 r x7) (And.intro (up9 r x8) (And.intro (up9 r c1) (up9 r c2)))))))))))));go_wp2
      go_region_held3 (fun x=>x.cell? ⟨w.heap.size,0,none⟩=some (.string s)/\x.cell? ⟨w.heap.size,1,none⟩=some (.bool g)/\x.cell? ⟨b,off+q*9,none⟩=some (.int .i64 t.op)/\x.cell? ⟨b,off+q*9+1,none⟩=some (.int .u64 (Sets.Aa t.set 0:Nat))/\x.cell? ⟨b,off+q*9+2,none⟩=some (.int .u64 (Sets.Aa t.set 1:Nat))/\x.cell? ⟨b,off+q*9+3,none⟩=some (.int .u64 (Sets.Aa t.set 2:Nat))/\x.cell? ⟨b,off+q*9+4,none⟩=some (.int .u64 (Sets.Aa t.set 3:Nat))/\x.cell? ⟨b,off+q*9+5,none⟩=some (.int .i64 t.lo)/\x.cell? ⟨b,off+q*9+6,none⟩=some (.int .i64 t.hi)/\x.cell? ⟨b,off+q*9+7,none⟩=some (.int .i64 t.group)/\x.cell? ⟨b,off+q*9+8,none⟩=some (.slice j4 t.args.length j5)/\x.cell? ⟨b2,E+k2*2,none⟩=some (.int .i64 (pe:Int))/\x.cell? ⟨b2,E+k2*2+1,none⟩=some (.slice j2 f7.length j3)) (first | exact M.o _ (Below.refl _ _) | exact M.o _ ((Below.refl _ wr).drew) | exact M.o _ X.o)
       (first
       | (go_at_call 89
          (refine (a5.o _ (by first | exact (Below.refl _ wr).drew | exact Below.refl _ wr)).mono ?_)
          rintro e w3 ⟨h3,D⟩;obtain rfl:=h3;have X:Hid (qw wr w3):=(by first | exact Ab ((Below.refl _ wr).drew) D | exact D)
          have A:=qh (Ab Y.o X.o)))
      all_goals go_wp2
      all_goals go_ret2
      all_goals rw[e8.o]
      all_goals exact⟨rfl,A.o⟩
     |some m=>
      rw[hf]at a5 u;have m1:=qh (b6.o m hf);have g4:=qh (Ej _ _ _ _ _ hf);clear hf b6;have M:=qh (fun W (r:qw wr W)=>And.intro (up9 r t0) (And.intro (up9 r t1) (And.intro (up9 r x0) (And.intro (up9 r x1) (And.intro (up9 r x2) (And.intro (up9 r x3) (And.intro (up9 r x4) (And.intro (up9 r x5) (And.intro (up9 r x6) (And.intro (up9 r x7) (And.intro (up9 r x8) (And.intro (up9 r c1) (up9 r c2)))))))))))));go_wp2
      go_region_held3 (fun x=>x.cell? ⟨w.heap.size,0,none⟩=some (.string s)/\x.cell? ⟨w.heap.size,1,none⟩=some (.bool g)/\x.cell? ⟨b,off+q*9,none⟩=some (.int .i64 t.op)/\x.cell? ⟨b,off+q*9+1,none⟩=some (.int .u64 (Sets.Aa t.set 0:Nat))/\x.cell? ⟨b,off+q*9+2,none⟩=some (.int .u64 (Sets.Aa t.set 1:Nat))/\x.cell? ⟨b,off+q*9+3,none⟩=some (.int .u64 (Sets.Aa t.set 2:Nat))/\x.cell? ⟨b,off+q*9+4,none⟩=some (.int .u64 (Sets.Aa t.set 3:Nat))/\x.cell? ⟨b,off+q*9+5,none⟩=some (.int .i64 t.lo)/\x.cell? ⟨b,off+q*9+6,none⟩=some (.int .i64 t.hi)/\x.cell? ⟨b,off+q*9+7,none⟩=some (.int .i64 t.group)/\x.cell? ⟨b,off+q*9+8,none⟩=some (.slice j4 t.args.length j5)/\x.cell? ⟨b2,E+k2*2,none⟩=some (.int .i64 (pe:Int))/\x.cell? ⟨b2,E+k2*2+1,none⟩=some (.slice j2 f7.length j3)) (first | exact M.o _ (Below.refl _ _) | exact M.o _ ((Below.refl _ wr).drew) | exact M.o _ X.o)
       (first
       | (go_at_call 89
          (refine (a5.o _ (by first | exact (Below.refl _ wr).drew | exact Below.refl _ wr)).mono ?_)
          rintro e w3 ⟨h3,D⟩;obtain⟨mv,rfl,N⟩:=h3;have m2:=qh (N.mono (by first | exact a8))
          have m0:Hid (∀b,mv.ownBlock=some b->wr.heap.size<=b):=(fun b C=>(N.lt b C).1);have X:Hid (qw wr w3):=(by first | exact Ab ((Below.refl _ wr).drew) D | exact D)
          have A:=X;obtain⟨ma,mc,rfl⟩:=N.form;clear N D))
      have f9:Hid (Apart (.slice ma m.length mc) (.slice na z.length nc)):=Apart.new m0.o (fun b C=>(e6.o.lt b C).2);have g6:=qh (e6.o.stays A.o);have g8:=qh (g7.o.stays A.o);have h5:=qh (b7.o.stays A.o);have g0:=qh (Ab Y.o A.o);have h4:=qh (Nat.le_trans a8 A.o.size);have p6:(m.length:Int)<=4096:=by have:=g4.o;omega
      go_wp2
      go_loopw [12,16] (fun nx ic V=>∃(j:Nat) (b0:Value),j<=m.length/\ic=.int .i64 j/\b0=nx/\PRow V (w.heap.size+1) b0 (An z (m.take j))/\PRow V (w.heap.size+1) (.slice ma m.length mc) m/\PRow V (w.heap.size+1) (.slice (some ⟨b2,E,none⟩) d.length oc) d/\Apart (.slice ma m.length mc) b0/\Apart (.slice (some ⟨b2,E,none⟩) d.length oc) b0/\qw w V/\TBox V w.heap.size s g/\w.heap.size+1<=V.heap.size) (fun _ ic _=>m.length-(intOf ic).toNat)
      case atStart=>exact⟨0,_,Nat.zero_le _,rfl,rfl,g6.o,m2.o,g8.o,f9.o,j7.o,g0.o,h5.o,h4.o⟩
      case round=>
       obtain⟨j,b0,hj,rfl,rfl,f2,N,i8,b9,c9,C,K,a9⟩:=hrel;have B:=qh f2;have a2:=qh N;have a4:=qh i8;have L:=qh b9;have G:=qh c9;have Q:=qh C;have b8:=qh K;obtain⟨j0,j1,rfl⟩:=f2.form;have e9:=Et (m.take j) z;have o1:(m.take j).length<=m.length:=by rw[List.length_take];omega
       have h6:(An z (m.take j)).length<=8192:=by have:=g4.o;omega
       have h7:((An z (m.take j)).length:Int)<=8192:=by omega
       clear f2 N i8 b9 c9 C K e9 o1;by_cases hjt:j<m.length
       ·have n5:(j:Int)< (m.length:Int):=by omega
        have f6:m[j]? =some m[j]:=List.getElem?_eq_getElem hjt;obtain⟨b3,p1,p8,e3,y1,y2,U⟩:=a2.o.lies.at f6;obtain⟨o3,o4,rfl⟩:=U.shape;have p0:=U.len.2;have n2:Hid (An z (m.take (j+1))=addU (An z (m.take j)) m[j]):=by show _=_;rw[Bt f6,Jf]
        have j6:=qh (f8.o (.slice j0 (An z (m.take j)).length j1) (.slice o3 m[j].2.length o4) (An z (m.take j)) m[j] (w.heap.size+1) wr.drew (B.o.stays ((Below.refl _ wr).drew)) (U.stays ((Below.refl _ wr).drew)) a9 (by omega));subst e3;clear f6 U;generalize m[j]=y at*;obtain⟨ye,p9⟩:=y;simp only at*;have p3:=qh (And.intro y1 y2);go_wp2
        go_still_tail 11,(by kernel_rfl)
        change wpList _ _ _ _ _ wr.drew
        go_wp2_with (go_at_call 127
                     (refine j6.o.mono ?_);rintro e w4 ⟨⟨o2,rfl,i9,i5⟩,h9⟩;have m5:=qh i9;have g5:=qh i5;have a0:Hid (Chg (fun k=>some k=(Value.slice j0 (An z (m.take j)).length j1).ownBlock) wr w4):=(Chg.of ((Below.refl _ wr).drew)).trans h9 (fun k _ e=>e);clear i9 i5 h9)
        go_wp2;go_roundw
        case rel=>exact⟨j+1,o2,by omega,by go_num,rfl,by rw[n2.o];exact m5.o,a2.o.chg a0.o B.o.noSp (fun b C e=>L.o b C e.symm),a4.o.chg a0.o B.o.noSp (fun b C e=>G.o b C e.symm),L.o.near g5.o (fun b C=>(a2.o.lt b C).2),G.o.near g5.o (fun b C=>(a4.o.lt b C).2),Q.o.trans (a0.o.below Q.o.size (fun k hk e=>by have:=(B.o.lt k e.symm).1;omega)),b8.o.chg a0.o (fun e=>by have:=(B.o.lt _ e.symm).1;omega),Nat.le_trans a9 a0.o.size⟩
        case measure=>simp[intOf];omega
       ·have n5:¬(j:Int)< (m.length:Int):=by omega
        have HJ:Hid (An z (m.take j)=An z m):=by show _=_;rw[show j=m.length by omega,List.take_length]
        rw[HJ.o]at B L G h6 h7 ⊢;by_cases hbig:most< (An z m).length
        ·  have n3:4096< ((An z m).length:Int):=by unfold most at hbig;omega
           have e8:Hid (R=none):=by
            show _=_;rw[<- S.o,J.o,u.o,Option.bind_some,if_pos hbig];rfl
           clear hbig;go_wp2;go_ret2;rw[e8.o];exact⟨rfl,Q.o⟩
        ·  have n3:((An z m).length:Int)<=4096:=by unfold most at hbig;omega
           have g2:Hid (Df ((tx s g).parses t) d []=Df ((tx s g).parses t) (d.drop (k2+1)) (An z m)):=by
            show _=_;rw[J.o,u.o,Option.bind_some,if_neg hbig]
           clear hbig;go_wp2;go_roundw
           case rel=>exact⟨k2+1,_,An z m,by omega,by go_num,rfl,B.o,⟨Ih a3.o.nd m,by omega,fun p hp=>(mem_addAll.1 hp).elim (a3.o.ok p) (m1.o p)⟩,by rw[m9.o];exact g2.o,a4.o,G.o,Q.o,b8.o,a9⟩
           case measure=>simp[intOf];omega
    ·have n6:¬(k2:Int)< (d.length:Int):=by omega
     have HK:Hid (k2=d.length):=by show _=_;omega
     clear C;go_wp2;go_roundw
     case rel=>exact⟨q+1,_,z,by have:=e5.o;omega,by go_num,rfl,e6.o,a3.o,by
      have h1:=S.o;rw[J.o,HK.o,List.drop_length,Df]at h1;exact h1,Y.o,b7.o,a8⟩
     case measure=>simp[intOf];have:=e5.o;omega
  ·have o0:¬(q:Int)< (args.length:Int):=by omega
   have h0:Hid (R=some d):=by
    show _=_;have h1:=g1.o;rw[show q=args.length by omega,List.drop_length,Text.parsesL,Cs]at h1;exact h1.symm
   have HD:=qh (e4.o _ d wm g9.o.lies (by omega) g3.o.nd);clear C;cases hd:done s.size d with
   |none=>
    rw[hd]at HD;have e7:Hid (R.bind (done s.size)=none):=by show _=_;rw[h0.o,Option.bind_some,hd]
    clear hd
    go_wp2_with (go_at_call 135
                 (refine HD.o.mono ?_);rintro e w3 ⟨h3,D⟩;obtain rfl:=h3;have A:=qh (Ab b4.o D))
    go_ret2;rw[e7.o];exact⟨rfl,A.o⟩
   |some dl=>
    rw[hd]at HD;have e7:Hid (R.bind (done s.size)=some dl):=by show _=_;rw[h0.o,Option.bind_some,hd]
    clear hd
    go_wp2_with (go_at_call 135
                 (refine HD.o.mono ?_);rintro e w3 ⟨h3,D⟩;obtain⟨dv,rfl,i1⟩:=h3;have j9:=qh (i1.mono b4.o.size);have A:=qh (Ab b4.o D);clear i1)
    go_ret2;rw[e7.o];exact⟨⟨_,rfl,j9.o⟩,A.o⟩
end ReMem
end Go.Proofs.YtjefcpjciogcjaaGreatDoor
