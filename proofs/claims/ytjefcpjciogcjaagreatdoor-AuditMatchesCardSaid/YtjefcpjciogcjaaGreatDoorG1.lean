/- Lemmas for the walk of the law, in 7 parts. No condition beyond what each states. -/
import Derived.Test.YtjefcpjciogcjaaGreatDoorG0
import Derived.ProofKit
import Derived.OpenShut
import Derived.ChangeArms
import Derived.Deep.SlicePairs
namespace Go.Proofs.YtjefcpjciogcjaaGreatDoor
set_option maxRecDepth 100000
set_option linter.unusedVariables false
set_option maxHeartbeats 4000000
open Tryz
namespace ReMem
open Go Go.ChangeShapes Go.WideShapes Go.ChangeAt Go.RowKit MatchMath
def W64 (z:Int):Prop:= -9223372036854775808<=z/\z<=9223372036854775807
abbrev WA (o:Int) (s:Nat->Bool) (l h g:Int) (v:Value):Array Value:=#[.int .i64 o,.int .u64 (Sets.Aa s 0:Nat),.int .u64 (Sets.Aa s 1:Nat),.int .u64 (Sets.Aa s 2:Nat),.int .u64 (Sets.Aa s 3:Nat),.int .i64 l,.int .i64 h,.int .i64 g,v]
abbrev ZA (o l h g:Int) (v:Value):Array Value:=#[.int .i64 o,.int .u64 0,.int .u64 0,.int .u64 0,.int .u64 0,.int .i64 l,.int .i64 h,.int .i64 g,v]
abbrev ZA0:Array Value:=#[.int .i64 0,.int .u64 0,.int .u64 0,.int .u64 0,.int .u64 0,.int .i64 0,.int .i64 0,.int .i64 0,.slice none 0 0]
abbrev xA (e:Re) (a:Option Addr) (c:Nat):Array Value:=#[.int .i64 e.op,.int .u64 (Sets.Aa e.set 0:Nat),.int .u64 (Sets.Aa e.set 1:Nat),.int .u64 (Sets.Aa e.set 2:Nat),.int .u64 (Sets.Aa e.set 3:Nat),.int .i64 e.lo,.int .i64 e.hi,.int .i64 e.group,.slice a e.args.length c]
abbrev WL (o:Int) (s:Nat->Bool) (l h g:Int) (v:Value):List Value:= [.int .i64 o,.int .u64 (Sets.Aa s 0:Nat),.int .u64 (Sets.Aa s 1:Nat),.int .u64 (Sets.Aa s 2:Nat),.int .u64 (Sets.Aa s 3:Nat),.int .i64 l,.int .i64 h,.int .i64 g,v]
abbrev ZL (o l h g:Int) (v:Value):List Value:= [.int .i64 o,.int .u64 0,.int .u64 0,.int .u64 0,.int .u64 0,.int .i64 l,.int .i64 h,.int .i64 g,v]
abbrev ZL0:List Value:= [.int .i64 0,.int .u64 0,.int .u64 0,.int .u64 0,.int .u64 0,.int .i64 0,.int .i64 0,.int .i64 0,.slice none 0 0]
abbrev xL (e:Re) (a:Option Addr) (c:Nat):List Value:= [.int .i64 e.op,.int .u64 (Sets.Aa e.set 0:Nat),.int .u64 (Sets.Aa e.set 1:Nat),.int .u64 (Sets.Aa e.set 2:Nat),.int .u64 (Sets.Aa e.set 3:Nat),.int .i64 e.lo,.int .i64 e.hi,.int .i64 e.group,.slice a e.args.length c]
abbrev XA (p:ByteArray) (f gr:Int) (e:Re) (a:Option Addr) (c:Nat):Array Value:=#[.string p,.int .i64 f,.int .i64 gr,.int .i64 e.op,.int .u64 (Sets.Aa e.set 0:Nat),.int .u64 (Sets.Aa e.set 1:Nat),.int .u64 (Sets.Aa e.set 2:Nat),.int .u64 (Sets.Aa e.set 3:Nat),.int .i64 e.lo,.int .i64 e.hi,.int .i64 e.group,.slice a e.args.length c]
abbrev xS (w:World) (b:Nat) (e:Re) (a:Option Addr) (c:Nat):Prop:=w.cell? ⟨b,0,none⟩=some (.int .i64 e.op)/\w.cell? ⟨b,1,none⟩=some (.int .u64 (Sets.Aa e.set 0:Nat))/\w.cell? ⟨b,2,none⟩=some (.int .u64 (Sets.Aa e.set 1:Nat))/\w.cell? ⟨b,3,none⟩=some (.int .u64 (Sets.Aa e.set 2:Nat))/\w.cell? ⟨b,4,none⟩=some (.int .u64 (Sets.Aa e.set 3:Nat))/\w.cell? ⟨b,5,none⟩=some (.int .i64 e.lo)/\w.cell? ⟨b,6,none⟩=some (.int .i64 e.hi)/\w.cell? ⟨b,7,none⟩=some (.int .i64 e.group)/\w.cell? ⟨b,8,none⟩=some (.slice a e.args.length c)
abbrev tS (w:World) (b o:Nat) (e:Re) (a:Option Addr) (c:Nat):Prop:=w.cell? ⟨b,o,none⟩=some (.int .i64 e.op)/\w.cell? ⟨b,o+1,none⟩=some (.int .u64 (Sets.Aa e.set 0:Nat))/\w.cell? ⟨b,o+2,none⟩=some (.int .u64 (Sets.Aa e.set 1:Nat))/\w.cell? ⟨b,o+3,none⟩=some (.int .u64 (Sets.Aa e.set 2:Nat))/\w.cell? ⟨b,o+4,none⟩=some (.int .u64 (Sets.Aa e.set 3:Nat))/\w.cell? ⟨b,o+5,none⟩=some (.int .i64 e.lo)/\w.cell? ⟨b,o+6,none⟩=some (.int .i64 e.hi)/\w.cell? ⟨b,o+7,none⟩=some (.int .i64 e.group)/\w.cell? ⟨b,o+8,none⟩=some (.slice a e.args.length c)
abbrev XS (w:World) (b:Nat) (p:ByteArray) (f gr:Int) (e:Re) (a:Option Addr) (c:Nat):Prop:=w.cell? ⟨b,0,none⟩=some (.string p)/\w.cell? ⟨b,1,none⟩=some (.int .i64 f)/\w.cell? ⟨b,2,none⟩=some (.int .i64 gr)/\w.cell? ⟨b,3,none⟩=some (.int .i64 e.op)/\w.cell? ⟨b,4,none⟩=some (.int .u64 (Sets.Aa e.set 0:Nat))/\w.cell? ⟨b,5,none⟩=some (.int .u64 (Sets.Aa e.set 1:Nat))/\w.cell? ⟨b,6,none⟩=some (.int .u64 (Sets.Aa e.set 2:Nat))/\w.cell? ⟨b,7,none⟩=some (.int .u64 (Sets.Aa e.set 3:Nat))/\w.cell? ⟨b,8,none⟩=some (.int .i64 e.lo)/\w.cell? ⟨b,9,none⟩=some (.int .i64 e.hi)/\w.cell? ⟨b,10,none⟩=some (.int .i64 e.group)/\w.cell? ⟨b,11,none⟩=some (.slice a e.args.length c)
def Bi (v:Value) (e:Re):List Value:= [.int .i64 e.op,.int .u64 (Sets.Aa e.set 0:Nat),.int .u64 (Sets.Aa e.set 1:Nat),.int .u64 (Sets.Aa e.set 2:Nat),.int .u64 (Sets.Aa e.set 3:Nat),.int .i64 e.lo,.int .i64 e.hi,.int .i64 e.group,v]
def Ag (e:Re):Prop:=W64 e.op/\W64 e.lo/\W64 e.hi/\W64 e.group
inductive Lies (w:World):Value->List Re->Prop
 | mk (a:Option Addr) (c:Nat) (ts:List Re) (vs:List Value) (hl:vs.length=ts.length) (hc:ts.length<=c/\c<=maxLen) (hf:∀t∈ts,Ag t)
  (hcell:ts≠ []->∃b off,a=some ⟨b,off,none⟩/\∀j t v,ts[j]? =some t->vs[j]? =some v->∀i u,(Bi v t)[i]? =some u->w.cell? ⟨b,off+9*j+i,none⟩=some u)
  (hsub:∀(j:Nat) (t:Re) (v:Value),ts[j]? =some t->vs[j]? =some v->Lies w v t.args):Lies w (.slice a ts.length c) ts
theorem Lies.keep {w o:World} (q:∀p:Addr,(w.cell? p).isSome=true->o.cell? p=w.cell? p) {v:Value} {g:List Re} (h:Lies w v g):Lies o v g:=by
 induction h with
 |mk a c g vs hl hc hf hcell hsub ih=>
  refine .mk a c g vs hl hc hf (fun l=>?_) fun j t v d e=>ih j t v d e;obtain⟨b,off,rfl,n⟩:=hcell l;exact⟨b,off,rfl,fun j t v d e i u m=>by rw[q _ (by rw[n j t v d e i u m];rfl)];exact n j t v d e i u m⟩
theorem Lies.stays {w b:World} {v:Value} {a:List Re} (h:Lies w v a) (c:qw w b):Lies b v a:=
 h.keep fun p d=>c.cell (by obtain⟨x,e⟩:=Option.isSome_iff_exists.1 d;exact World.block_lt_of_cell? w p e)
theorem Lies.nil (w:World):Lies w (.slice none 0 0) []:=.mk none 0 [] [] rfl ⟨ql,Nat.zero_le _⟩ (fun t h=>by cases h) (fun h=>absurd rfl h) fun j t v hj=>by simp at hj
theorem Lies.form {w:World} {v:Value} {d:List Re} (h:Lies w v d):∃(a:Option Addr) (c:Nat) (e:List Value),v=.slice a d.length c/\(d.length<=c/\c<=maxLen)/\e.length=d.length/\(∀t∈d,Ag t)/\
  (d≠ []->∃b off,a=some ⟨b,off,none⟩/\∀j t v,d[j]? =some t->e[j]? =some v->∀i u,(Bi v t)[i]? =some u->w.cell? ⟨b,off+9*j+i,none⟩=some u)/\(∀(j:Nat) (t:Re) (v:Value),d[j]? =some t->e[j]? =some v->Lies w v t.args):=by
 cases h with
 | mk a c d e hl hc hf hcell hsub=>exact⟨a,c,e,rfl,hc,hl,hf,hcell,hsub⟩
section
variable {H:Type} {enc:TypeId×Value->H} {W:World}
theorem trees_of:∀(d:Nat) (cs:List Value) (x:DataW H×List MemPlace),DataW.trod enc Tryz.prog W 0 (fun _=>true) true d 26 cs=some x->∃v ts,cs= [v]/\Lies W v ts:=by
 intro d
 induction d using Nat.strongRecOn with
 |_ d ih=>
  intro cs x h;rcases DataW.trod_slice underlying26 h with ⟨rfl,_⟩ | ⟨a,len,y,K,a1,n,hn,rfl,_,_,hl,hm,a0,M,_,_⟩
  · exact⟨_,[],rfl,Lies.nil W⟩
  ·have A:∀i,i<len->∃p:Re×Value,Ag p.1/\Lies W p.2 p.1.args/\∀j u,(Bi p.2 p.1)[j]? =some u->W.cell? ((a.add (i*9)).add j)=some u:=by
    intro i hi;have h1:=M i hi;rw[List.getElem?_eq_getElem (by omega),show Tryz.prog.cellsOf 28=9 from by kernel_rfl]at h1;obtain⟨z,h2,h3⟩:=Option.bind_eq_some_iff.1 h1;obtain⟨xs,m,a2,_,L,R,r⟩:=DataW.trod_struct underlying28 h3;have N:z.length=9:=L.trans (by kernel_rfl);have a3:xs.length=6:=R;have g0:=r 0 _ rfl;have g1:=r 1 _ rfl;have g2:=r 2 _ rfl;have g3:=r 3 _ rfl;have g4:=r 4 _ rfl;have g5:=r 5 _ rfl;rw[List.getElem?_eq_getElem (by omega)]at g0 g1 g2 g3 g4 g5;obtain⟨z0,S,_,w0⟩:=DataW.trod_int underlying3 g0;obtain⟨p,T⟩:=Args2.Vo g1;obtain⟨z2,U,_,w2⟩:=DataW.trod_int underlying3 g2;obtain⟨z3,V,_,w3⟩:=DataW.trod_int underlying3 g3;obtain⟨z4,X,_,w4⟩:=DataW.trod_int underlying3 g4;obtain⟨v,ts,Y,P⟩:=ih m (by omega) _ _ g5;obtain⟨_,_,l⟩:=World.cells?_some h2
    match z,N with
    | [c0,c1,c2,c3,c4,c5,c6,c7,c8],_=>
      simp[show Tryz.prog.cellsOf 3=1 from by kernel_rfl,show Tryz.prog.cellsOf 25=4 from by kernel_rfl,show Tryz.prog.cellsOf 26=1 from by kernel_rfl]at S T U V X Y;obtain⟨rfl,rfl,rfl,rfl⟩:=T;subst S U V X Y;exact⟨(.mk z0 p z2 z3 z4 ts,c8),⟨bounds_i64 w0,bounds_i64 w2,bounds_i64 w3,bounds_i64 w4⟩,P,fun j u e=>by rw[l j (by have:=(List.getElem?_eq_some_iff.1 e).1;simpa [Bi] using this)];exact e⟩
   haveI:Inhabited (Re×Value):=⟨(.mk 0 (fun _=>false) 0 0 0 [],.bool false)⟩
   obtain⟨f,J⟩:=Go.Deep.choose_lt A;have E:((List.range len).map fun i=>(f i).1).length=len:=by simp
   have C:∀j t,((List.range len).map fun i=>(f i).1)[j]? =some t->j<len/\t=(f j).1:=by
    intro j t e;have c:j<len:=by have:=(List.getElem?_eq_some_iff.1 e).1;omega
    rw[List.getElem?_map,List.getElem?_range c]at e;exact⟨c,by simpa using e.symm⟩
   have D:∀j v,((List.range len).map fun i=>(f i).2)[j]? =some v->v=(f j).2:=by
    intro j v e;have c:j<len:=by have:=(List.getElem?_eq_some_iff.1 e).1;simpa using this
    rw[List.getElem?_map,List.getElem?_range c]at e;simpa using e.symm
   refine⟨_,(List.range len).map fun i=>(f i).1,rfl,?_⟩;have I:Lies W (.slice (some a) ((List.range len).map fun i=>(f i).1).length y) ((List.range len).map fun i=>(f i).1):=by
    refine .mk (some a) y _ ((List.range len).map fun i=>(f i).2) (by simp) ⟨by rw[E];exact hl,hm⟩ ?_ (fun O=>?_) ?_
    · intro t ht
      obtain⟨i,hi,rfl⟩:=List.mem_map.1 ht;exact (J i (by have:=List.mem_range.1 hi;omega)).1
    · have G:0<len:=by
       rcases Nat.eq_zero_or_pos len with B | B
       · subst B;simp at O
       · exact B
      obtain⟨b,off,spot⟩:=a;have B:=(J 0 G).2.2 0 _ rfl;have q:spot=none:=by simpa [Addr.add] using World.cell?_spot B
      subst q;refine⟨b,off,rfl,fun j t v e Q i u hu=>?_⟩;obtain⟨c,rfl⟩:=C j t e;obtain rfl:=D j v Q;have:=(J j c).2.2 i u hu;have g:∀o k,(⟨b,o,none⟩:Addr).add k=⟨b,o+k,none⟩:=fun o k=>by unfold Addr.add;split <;> simp_all
      rw[g,g,Nat.mul_comm]at this;exact this
    · intro j t v e Q
      obtain⟨c,rfl⟩:=C j t e;obtain rfl:=D j v Q;exact (J j c).2.1
   rw[E]at I;exact I
end
end ReMem
namespace ReMem
open Go Go.RowKit MatchMath
theorem Ab {w b c:World} (a:qw w b) (d:qw b c):qw w c:=a.trans (d.mono a.size)
def Ac (v:Value) (e:Re):Value:=.agg #[.int .i64 e.op,.int .u64 (Sets.Aa e.set 0:Nat),.int .u64 (Sets.Aa e.set 1:Nat),.int .u64 (Sets.Aa e.set 2:Nat),.int .u64 (Sets.Aa e.set 3:Nat),.int .i64 e.lo,.int .i64 e.hi,.int .i64 e.group,v]
structure Node (w:World) (b off j:Nat) (t:Re) (v:Value):Prop where
 c0:w.cell? ⟨b,off+j*9,none⟩=some (.int .i64 t.op)
 c1:w.cell? ⟨b,off+j*9+1,none⟩=some (.int .u64 (Sets.Aa t.set 0:Nat))
 c2:w.cell? ⟨b,off+j*9+2,none⟩=some (.int .u64 (Sets.Aa t.set 1:Nat))
 c3:w.cell? ⟨b,off+j*9+3,none⟩=some (.int .u64 (Sets.Aa t.set 2:Nat))
 c4:w.cell? ⟨b,off+j*9+4,none⟩=some (.int .u64 (Sets.Aa t.set 3:Nat))
 c5:w.cell? ⟨b,off+j*9+5,none⟩=some (.int .i64 t.lo)
 c6:w.cell? ⟨b,off+j*9+6,none⟩=some (.int .i64 t.hi)
 c7:w.cell? ⟨b,off+j*9+7,none⟩=some (.int .i64 t.group)
 c8:w.cell? ⟨b,off+j*9+8,none⟩=some v
structure Box9 (w:World) (b:Nat) (o:Int) (x0 x1 x2 x3:Nat) (l h g:Int) (v:Value):Prop where
 d0:w.cell? ⟨b,0,none⟩=some (.int .i64 o)
 d1:w.cell? ⟨b,1,none⟩=some (.int .u64 x0)
 d2:w.cell? ⟨b,2,none⟩=some (.int .u64 x1)
 d3:w.cell? ⟨b,3,none⟩=some (.int .u64 x2)
 d4:w.cell? ⟨b,4,none⟩=some (.int .u64 x3)
 d5:w.cell? ⟨b,5,none⟩=some (.int .i64 l)
 d6:w.cell? ⟨b,6,none⟩=some (.int .i64 h)
 d7:w.cell? ⟨b,7,none⟩=some (.int .i64 g)
 d8:w.cell? ⟨b,8,none⟩=some v
 lt:b<w.heap.size
theorem Box9.stays {w a:World} {b:Nat} {o:Int} {e i j m:Nat} {l h g:Int} {v:Value} (q:Box9 w b o e i j m l h g v) (c:qw w a):Box9 a b o e i j m l h g v:=by
 have up:∀ {p:Addr} {u:Value},w.cell? p=some u->a.cell? p=some u:=fun {p u} d=>by rw[c.cell (World.block_lt_of_cell? w p d)];exact d
 exact⟨up q.d0,up q.d1,up q.d2,up q.d3,up q.d4,up q.d5,up q.d6,up q.d7,up q.d8,Nat.lt_of_lt_of_le q.lt c.size⟩
theorem Box9.new (w:World) (o:Int) (b c d e:Nat) (l h g:Int) (v:Value) (t:TypeId):
  Box9 (w.alloc (.cells #[.int .i64 o,.int .u64 b,.int .u64 c,.int .u64 d,.int .u64 e,.int .i64 l,.int .i64 h,.int .i64 g,v] t)) w.heap.size o b c d e l h g v:=by
 have a:=heap_alloc_new w (.cells #[.int .i64 o,.int .u64 b,.int .u64 c,.int .u64 d,.int .u64 e,.int .i64 l,.int .i64 h,.int .i64 g,v] t);refine⟨?_,?_,?_,?_,?_,?_,?_,?_,?_,(qd a)⟩ <;> (rw [qc a];rfl)
structure Open (w:World) (a:Option Addr) (ts:List Re) (vs:List Value):Prop where
 fit:∀t∈ts,Ag t
 node:∀j t v,ts[j]? =some t->vs[j]? =some v->∃b off,a=some ⟨b,off,none⟩/\Node w b off j t v
 sub:∀(j:Nat) (t:Re) (v:Value),ts[j]? =some t->vs[j]? =some v->Lies w v t.args
 len:vs.length=ts.length
theorem Lies.opened {w:World} {v:Value} {l:List Re} (h:Lies w v l):∃(a:Option Addr) (c:Nat) (m:List Value),v=.slice a l.length c/\(l.length<=c/\c<=maxLen)/\Open w a l m:=by
 obtain⟨a,c,m,rfl,o,q,p,g,i⟩:=h.form;refine⟨a,c,m,rfl,o,p,fun j t v n r=>?_,i,q⟩;obtain⟨b,off,rfl,d⟩:=g (by intro e;subst e;simp at n);have d:=d j t v n r;rw[Nat.mul_comm]at d;exact⟨b,off,rfl,d 0 _ rfl,d 1 _ rfl,d 2 _ rfl,d 3 _ rfl,d 4 _ rfl,d 5 _ rfl,d 6 _ rfl,d 7 _ rfl,d 8 _ rfl⟩
theorem Node.stays {w a:World} {b off j:Nat} {t:Re} {v:Value} (h:Node w b off j t v) (d:qw w a):Node a b off j t v:=by
 have up:∀ {p:Addr} {u:Value},w.cell? p=some u->a.cell? p=some u:=fun {p u} c=>by rw[d.cell (World.block_lt_of_cell? w p c)];exact c
 exact⟨up h.c0,up h.c1,up h.c2,up h.c3,up h.c4,up h.c5,up h.c6,up h.c7,up h.c8⟩
theorem Open.stays {w m:World} {a:Option Addr} {i:List Re} {l:List Value} (h:Open w a i l) (g:qw w m):Open m a i l:=
 ⟨h.fit,fun j t v c d=>by obtain⟨b,off,e,n⟩:=h.node j t v c d;exact⟨b,off,e,n.stays g⟩,fun j t v c d=>(h.sub j t v c d).stays g,h.len⟩
theorem Open.at {w:World} {a:Option Addr} {c:List Re} {d:List Value} (h:Open w a c d) {j:Nat} (g:j<c.length):∃t v b off,c[j]? =some t/\d[j]? =some v/\a=some ⟨b,off,none⟩/\Node w b off j t v/\Lies w v t.args/\Ag t/\t∈c:=by
 have n:j<d.length:=by rw[h.len];exact g
 have i:c[j]? =some c[j]:=List.getElem?_eq_getElem g;have l:d[j]? =some d[j]:=List.getElem?_eq_getElem n;obtain⟨b,off,e,m⟩:=h.node j _ _ i l;exact⟨_,_,b,off,i,l,e,m,h.sub j _ _ i l,h.fit _ (List.getElem_mem g),List.getElem_mem g⟩
end ReMem
namespace ReMem
open Go Go.RowKit MatchMath
structure Chg (C:Nat->Prop) (w w':World):Prop where
 os:w'.os=w.os
 tape:w'.tape=w.tape
 output:w'.output=w.output
 size:w.heap.size<=w'.heap.size
 block:∀k,k<w.heap.size->¬C k->w'.heap[k]? =w.heap[k]?
theorem Chg.refl (C:Nat->Prop) (w:World):Chg C w w:=⟨rfl,rfl,rfl,ql,fun _ _ _=>rfl⟩
theorem Chg.trans {C D:Nat->Prop} {w c d:World} (h:Chg C w c) (g:Chg D c d) (i:∀k,k<w.heap.size->D k->C k):Chg C w d:=
 ⟨g.os.trans h.os,g.tape.trans h.tape,g.output.trans h.output,Nat.le_trans h.size g.size,fun k a b=>(g.block k (Nat.lt_of_lt_of_le a h.size) (fun e=>b (i k a e))).trans (h.block k a b)⟩
theorem Chg.below {C:Nat->Prop} {w b:World} {B:Nat} (h:Chg C w b) (c:B<=w.heap.size) (d:∀k,k<B->¬C k):Below B w b:=
 ⟨h.os,h.tape,h.output,h.size,fun k a=>h.block k (Nat.lt_of_lt_of_le a c) (d k a)⟩
theorem Chg.of {C:Nat->Prop} {w a:World} (h:qw w a):Chg C w a:=⟨h.os,h.tape,h.output,h.size,fun k hk _=>h.block k hk⟩
theorem Chg.grown {w a:World} {row:Option Nat} (h:w.grownBy a row):Chg (fun k=>some k=row) w a:=⟨h.os,h.tape,h.output,h.size,fun k hk hc=>h.block k hk hc⟩
theorem Chg.alloc (C:Nat->Prop) (w:World) (o:Obj):Chg C w (w.alloc o):=Chg.of ((Below.refl _ w).alloc ql o)
theorem Chg.mono {C D:Nat->Prop} {w a:World} (h:Chg C w a) (b:∀k,k<w.heap.size->C k->D k):Chg D w a:=⟨h.os,h.tape,h.output,h.size,fun k hk hd=>h.block k hk fun hc=>hd (b k hk hc)⟩
theorem Chg.setCell (w:World) (b j:Nat) (v:Value):Chg (fun k=>k=b) w (w.setCell ⟨b,j,none⟩ v):=⟨rfl,rfl,rfl,by simp,fun k _ hk=>Below.heap_setCell _ _ _ _ hk⟩
theorem Chg.cell {C:Nat->Prop} {w b:World} (h:Chg C w b) {p:Addr} {u:Value} (a:w.cell? p=some u) (c:¬C p.block):b.cell? p=some u:=by
 rw[World.cell?_of_block (h.block p.block (World.block_lt_of_cell? w p a) c)];exact a
theorem Box9.chg {C:Nat->Prop} {w d:World} {b:Nat} {o:Int} {e i j m:Nat} {l h g:Int} {v:Value} (q:Box9 w b o e i j m l h g v) (a:Chg C w d) (c:¬C b):Box9 d b o e i j m l h g v:=
 ⟨a.cell q.d0 c,a.cell q.d1 c,a.cell q.d2 c,a.cell q.d3 c,a.cell q.d4 c,a.cell q.d5 c,a.cell q.d6 c,a.cell q.d7 c,a.cell q.d8 c,Nat.lt_of_lt_of_le q.lt a.size⟩
theorem Row.chg {C:Nat->Prop} {w b:World} {base:Nat} {e:TypeId} {size:Nat} {v:Value} {n:Nat} {xs:List Value} (h:Own.Row w base e size v n xs) (c:Chg C w b) (d:∀k,v.ownBlock=some k->¬C k):Own.Row b base e size v n xs:=
 h.keep fun k a=>c.block k (h.lt k a).2 (d k a)
def ints (l:List Int):List Value:=l.map (Value.int .i64)
theorem Zt (l:List Int) (z:Int):ints (l++ [z])=ints l++ [.int .i64 z]:=by simp[ints]
theorem ints_at {l:List Int} {j:Nat} {z:Int} (h:l[j]? =some z):(ints l)[j]? =some (.int .i64 z):=by simp[ints,h]
theorem Xv {P:Program} (w:World) {ops:Array Oper} {b:List Oper} {o:Oper} {a:Act} {Q:Exit->Act->World->Prop} (l:o.guard=none) (s x:Operand) (t:TypeId)
  (A:o.op=.call {callee:=.builtin .append,args:=#[s,x],argTypes:=#[t,t]})
  (base:Nat) (e:TypeId) (i:TypeInfo) (z:Value) (size bytes:Nat) (ht:P.underlying t=some (.slice e)) (hi:P.info? e=some i) (hz:i.zero=some z)
  (hsize:i.size=size) (hby:i.bytes=bytes) (hzs:z.cells.size=size) (hsz:0<size)
  (v:Value) (n:Nat) (xs:List Value) (hs:a.eval s=v) (hown:Own.Row w base e size v n xs)
  (ad:Addr) (m c:Nat) (news:List Value) (hx:a.eval x=.slice (some ad) m c) (hl:news.length=m*size) (hnews:∀j u,news[j]? =some u->w.cell? (ad.add j)=some u) (h1:∀u∈news,u.oneCell'=true)
  (h63:n+m<=maxLen) (hbytes:(n+m)*bytes<=140737488355328) (hbase:base<=w.heap.size)
  (h:∀d g,Own.Row g base e size d (n+m) (xs++news)->w.grownBy g v.ownBlock->(d.ownBlock=v.ownBlock\/d.ownBlock=some w.heap.size)->wpList P ops Q b (a.put o.dst d) g):wpList P ops Q (o::b) a w:=by
 refine wpList_plain l fun K y=>?_;obtain⟨d,g,hr,p,q,r⟩:=Own.Gg (P:=P) w base t o.type e i z size bytes ht hi hz hsize hby hzs hsz v n xs hown ad m c news hl hnews h1 h63 hbytes hbase;unfold Oper.wp execOp;simp only[A,resolve,invoke,builtin,Sem.run_bind,Sem.run_pure,Result.andThen_ok,List.map_toArray,List.map_cons,List.map_nil,hs,hx,hr];exact y _ _ (h d g p q r)
theorem Cu {P:Program} (w:World) {ops:Array Oper} {b:List Oper} {o:Oper} {a:Act} {Q:Exit->Act->World->Prop} (p:o.guard=none) (s x:Operand) (t:TypeId)
  (y:o.op=.call {callee:=.builtin .append,args:=#[s,x],argTypes:=#[t,t]})
  (base:Nat) (e:TypeId) (i:TypeInfo) (z:Value) (size bytes:Nat) (ht:P.underlying t=some (.slice e)) (hi:P.info? e=some i) (hz:i.zero=some z)
  (hsize:i.size=size) (hby:i.bytes=bytes) (hzs:z.cells.size=size) (hsz:0<size)
  (v:Value) (n:Nat) (xs:List Value) (hs:a.eval s=v) (hown:Own.Row w base e size v n xs) (news:List Value) (hl:news.length=size) (h1:∀u∈news,u.oneCell'=true)
  (hx:a.eval x=.slice (some ⟨w.heap.size,0,none⟩) 1 1)
  (hn:n+1<=maxLen) (hbytes:(n+1)*bytes<=140737488355328) (hbase:base<=w.heap.size)
  (h:∀c l,Own.Row l base e size c (n+1) (xs++news)->Chg (fun k=>some k=v.ownBlock) w l->(c.ownBlock=v.ownBlock\/∀k,c.ownBlock=some k->w.heap.size+1<=k)->wpList P ops Q b (a.put o.dst c) l):wpList P ops Q (o::b) a (w.alloc (.cells news.toArray e)):=by
 refine Xv (w.alloc (.cells news.toArray e)) p s x t y base e i z size bytes ht hi hz hsize hby hzs hsz v n xs hs (hown.alloc _) ⟨w.heap.size,0,none⟩ 1 1 news hx (by rw[hl,Nat.one_mul]) (fun j u A=>?_) h1 hn hbytes (by simp;omega) fun c l hr r q=>?_
 ·have g:=heap_alloc_new w (.cells news.toArray e)
  have d:(⟨w.heap.size,0,none⟩:Addr).add j=⟨w.heap.size,j,none⟩:=by unfold Addr.add;split <;> simp_all
  rw[d,qc g];simpa using A
 ·refine h c l hr ((Chg.alloc _ w _).trans (Chg.grown r) (fun k _ m=>m)) (q.imp id fun e k m=>?_)
  rw[e]at m;cases m
  simp
end ReMem
namespace KSame
open Go Go.RowKit Strs
def Reps (w:World) (v:Value) (rs:List (Int×Int)):Prop:=
 ∃a c,v=.slice a rs.length c/\(rs.length<=c/\c<=maxLen)/\(rs≠ []->∃b off,a=some ⟨b,off,none⟩/\∀j x,rs[j]? =some x->w.cell? ⟨b,off+j*2,none⟩=some (.int .i64 x.1)/\w.cell? ⟨b,off+j*2+1,none⟩=some (.int .i64 x.2))
theorem same_any (a b:Value) (rs:List (Int×Int)) (w:World) (o:Reps w a rs) (p:Reps w b rs):
  Calls Tryz.prog 7 #[a,b] w fun e w'=>e=.returned (.bool true)/\∃n,w'=w.drewN n:=by
 obtain⟨r,A,rfl,c,d⟩:=o;obtain⟨t,B,rfl,m,g⟩:=p;have q:rs.length<=2^63-1:=Nat.le_trans c.1 c.2;clear c m;go_enter func7,ntmps7;go_wp2
 go_loopw [5] (fun i wr=>∃k n:Nat,k<=rs.length/\i=.int .i64 k/\wr=w.drewN n) (fun i _=>rs.length-(intOf i).toNat)
 case atStart=>exact⟨0,0,Nat.zero_le _,rfl,rfl⟩
 case round=>
  obtain⟨k,n,C,rfl,rfl⟩:=hrel;by_cases h1:k<rs.length
  ·have u:(k:Int)< (rs.length:Int):=by omega
   obtain⟨z,E,rfl,j⟩:=d (by intro e;subst e;simp at h1);obtain⟨y,D,rfl,l⟩:=g (by intro e;subst e;simp at h1);have h:rs[k]? =some rs[k]:=List.getElem?_eq_getElem h1;obtain⟨G,I⟩:=j k rs[k] h;obtain⟨J,K⟩:=l k rs[k] h;clear h d g j l;generalize rs[k]=x at*;go_wp2
   go_quiet (fail)
   go_wp2;go_roundw
   case rel=>exact⟨k+1,_,by omega,by go_num,rfl⟩
   case measure=>simp[intOf];omega
  ·obtain rfl:k=rs.length:=by omega
   clear d g;go_wp2;go_ret;exact⟨rfl,n,rfl⟩
end KSame
namespace MatchMath
def SpOk (n:Nat) (l:List Span):Prop:=∀x∈l,x=Cj\/(0<=x.1/\x.1<=x.2/\x.2<=(n:Int))
def POk (n k i:Nat) (p:Parse):Prop:=i<=p.1/\p.1<=n/\p.2.length=k/\SpOk n p.2
def Good (n:Nat) (f:F):Prop:=∀i l m,i<=n->SpOk n l->f i l=some m->∀p∈m,POk n l.length i p
theorem POk.mono {n k i j:Nat} {p:Parse} (h:POk n k i p) (a:j<=i):POk n k j p:=⟨Nat.le_trans a h.1,h.2⟩
theorem Ha (l:List Span) (g:Int) (x:Span):(Di l g x).length=l.length:=by unfold Di;split <;> simp
theorem Xu {n:Nat} {l:List Span} (h:SpOk n l) (g:Int) {x:Span} (b:x=Cj\/(0<=x.1/\x.1<=x.2/\x.2<=(n:Int))):SpOk n (Di l g x):=by
 unfold Di;split
 ·intro y a
  rcases List.mem_or_eq_of_mem_set a with a | rfl
  · exact h y a
  · exact b
 · exact h
theorem Ef:∀(a:List Int) (l:List Span),(clear a l).length=l.length
 | [],_=>rfl
 |g::a,l=>by
  show (clear a (Di l g Cj)).length=_;rw[Ef a,Ha]
theorem Pt {n:Nat}:∀(a:List Int) {l:List Span},SpOk n l->SpOk n (clear a l)
 | [],_,h=>h
 | g::a,l,h=>Pt a (Xu h g (.inl rfl))
theorem Wm {l m:List Parse} (h:lim l=some m):m=l:=by
 unfold lim at h;split at h
 · cases h
 · exact (Option.some.inj h).symm
theorem Hs {n:Nat} {l m:List Parse} (h:done n l=some m) {p:Parse} (b:p∈m):p∈l:=by
 unfold done at h;cases hl:lim (dd l) with
 | none=>rw[hl]at h;cases h
 |some a=>
  rw[hl]at h;have e:=Wm hl;subst e;have:Br n (dd l)=m:=by simpa using h
  subst this;exact Pc.1 ((Km n _ p).1 b).1
theorem Vq {n k:Nat} {f:F} (d:Good n f) {j:Nat}:∀(out:List Parse) (m:List Parse),(∀p∈out,POk n k j p)->collect f out=some m->∀p∈m,POk n k j p
 | [],m,_,h=>by
   have:m= []:=by simpa [collect] using h.symm
   subst this;intro p c;cases c
 | q::r,m,ho,h=>by
   simp only[collect]at h;cases hq:f q.1 q.2 with
   | none=>rw[hq]at h;cases h
   |some a=>
    rw[hq]at h;cases hr:collect f r with
    | none=>rw[hr]at h;cases h
    |some b=>
     rw[hr]at h;have:a++b=m:=by simpa using h
     subst this;obtain⟨e,g,i,l⟩:=ho q (by simp);intro p c;rcases List.mem_append.1 c with c | c
     ·have:=d q.1 q.2 a g l hq p c
      rw[i]at this;exact this.mono e
     · exact Vq d r b (fun x o=>ho x (by simp[o])) hr p c
theorem Vm {n k j:Nat}:∀(c:List F) (out m:List Parse),(∀f∈c,Good n f)->(∀p∈out,POk n k j p)->Cs c out=some m->∀p∈m,POk n k j p
 | [],out,m,_,ho,h=>by
   have:out=m:=by simpa [Cs] using h
   subst this;exact ho
 | f::c,out,m,hf,ho,h=>by
   simp only[Cs]at h;cases hc:collect f out with
   | none=>rw[hc]at h;cases h
   |some a=>
    rw[hc]at h;cases hl:lim (dd a) with
    | none=>rw[Option.bind_some,hl]at h;cases h
    |some b=>
     rw[Option.bind_some,hl,Option.bind_some]at h;have e:=Wm hl;subst e;exact Vm c _ m (fun g d=>hf g (by simp[d])) (fun p i=>Vq (hf f (by simp)) out a ho hc p (Pc.1 i)) h
theorem Za {n:Nat}:∀(d:List F) (i:Nat) (l:List Span) (m:List Parse),(∀f∈d,Good n f)->i<=n->SpOk n l->De d i l=some m->∀p∈m,POk n l.length i p
 | [],i,l,m,_,_,_,h=>by
   have:m= []:=by simpa [De] using h.symm
   subst this;intro p c;cases c
 | f::d,i,l,m,hf,hi,hl,h=>by
   simp only[De]at h;cases ha:f i l with
   | none=>rw[ha]at h;cases h
   |some a=>
    rw[ha]at h;cases hb:De d i l with
    | none=>rw[hb]at h;cases h
    |some b=>
     rw[hb]at h;have:a++b=m:=by simpa using h
     subst this;intro p c;rcases List.mem_append.1 c with c | c
     · exact hf f (by simp) i l a hi hl ha p c
     · exact Za d i l b (fun g e=>hf g (by simp[e])) hi hl hb p c
theorem visit_ok {n k j:Nat} {f:F} (C:Good n f) (r:List Int) (lo hi:Int):∀(a:Nat) (c:Int) (p:Parse) (i m:RSt),POk n k j p->(∀q∈i.2,POk n k j q)->visit f (clear r) lo hi a c p i=some m->∀q∈m.2,POk n k j q
 | 0,_,_,_,_,_,_,h=>by cases h
 |a+1,c,p,i,m,hp,hst,h=>by
  unfold visit at h;simp only at h;generalize norm lo hi c=d at h;by_cases hs:(d,p)∈i.1
  ·rw[if_pos hs]at h
   obtain rfl:=Option.some.inj h;exact hst
  ·rw[if_neg hs]at h
   by_cases hb:most<i.1.length+1
   · rw[if_pos hb]at h;cases h
   ·rw[if_neg hb]at h
    have y:∀(l:List Parse) (s t:RSt),(∀q∈l,POk n k j q)->(∀q∈s.2,POk n k j q)->l.foldlM (fun s q=>if p.1<q.1\/d<lo then visit f (clear r) lo hi a (d+1) q s else some s) s=some t->∀q∈t.2,POk n k j q:=by
     intro l
     induction l with
     |nil=>
      intro s t _ A o;have:s=t:=by simpa using o
      subst this;exact A
     |cons x l ih=>
      intro s t B A o;rw[List.foldlM_cons]at o;by_cases hc:p.1<x.1\/d<lo
      ·rw[if_pos hc]at o
       cases hv:visit f (clear r) lo hi a (d+1) x s with
       | none=>rw[hv]at o;cases o
       |some g=>
        rw[hv]at o;exact ih g t (fun q b=>B q (by simp[b])) (visit_ok C r lo hi a _ x s g (B x (by simp)) A hv) o
      ·rw[if_neg hc]at o
       exact ih s t (fun q b=>B q (by simp[b])) A o
    have u:∀(g:RSt),(∀q∈g.2,POk n k j q)->(g.1,if lo<=d then g.2++ [p] else g.2)=m->∀q∈m.2,POk n k j q:=by
     intro g z e;rw[<- e];simp only;intro q b;split at b
     ·rcases List.mem_append.1 b with b | b
      · exact z q b
      ·obtain rfl:=List.mem_singleton.1 b
       exact hp
     · exact z q b
    by_cases hg:hi= -1\/d<hi
    ·rw[if_pos hg]at h
     cases hfl:f p.1 (clear r p.2) with
     | none=>rw[hfl]at h;cases h
     |some l=>
      rw[hfl,Option.bind_some]at h;cases hx:l.foldlM (fun s q=>if p.1<q.1\/d<lo then visit f (clear r) lo hi a (d+1) q s else some s) (i.1++ [(d,p)],i.2) with
      | none=>rw[hx]at h;cases h
      |some g=>
       rw[hx]at h;refine u g (y l (i.1++ [(d,p)],i.2) g (fun q b=>?_) hst hx) (by simpa using h);have:=C p.1 (clear r p.2) l hp.2.1 (Pt r hp.2.2.2) hfl q b;rw[Ef,hp.2.2.1]at this;exact this.mono hp.1
    ·rw[if_neg hg]at h
     exact u (i.1++ [(d,p)],i.2) hst (by simpa using h)
theorem repAll_ok {n:Nat} {f:F} (c:Good n f) (a:List Int) (lo hi:Int) (i:Nat) (l:List Span) (m:List Parse) (b:i<=n) (d:SpOk n l) (h:Fu f (clear a) lo hi i l=some m):∀p∈m,POk n l.length i p:=by
 unfold Fu at h;cases hv:visit f (clear a) lo hi (most+1) 0 (i,l) ([],[]) with
 | none=>rw[hv]at h;cases h
 |some s=>
  rw[hv]at h;have:s.2=m:=by simpa using h
  subst this;exact visit_ok c a lo hi _ 0 (i,l) ([],[]) s ⟨Nat.le_refl _,b,rfl,d⟩ (fun q e=>by cases e) hv
theorem node_ok (T:Text) (o:Int) (set:Nat->Bool) (lo hi g:Int) (I:List Int) (y:List F) (D:∀f∈y,Good T.s.length f):Good T.s.length (T.node o set lo hi g I y):=by
 intro i l m d E h;have one:∀j,i<=j->j<=T.s.length->POk T.s.length l.length i (j,l):=fun j B C=>⟨B,C,rfl,E⟩;have c:∀ {x:Option (List Parse)} {m:List Parse},(∀a,x=some a->∀p∈a,POk T.s.length l.length i p)->x.bind (done T.s.length)=some m->∀p∈m,POk T.s.length l.length i p:=by
  intro x m A u p e;cases hxa:x with
  | none=>rw[hxa]at u;cases u
  |some a=>
   rw[hxa,Option.bind_some]at u;exact A a hxa p (Hs u e)
 unfold Text.node at h;simp only at h;intro p e;split at h
 ·have:=Hs h e
  obtain rfl:=List.mem_singleton.1 this;exact one i (Nat.le_refl _) d
 ·split at h
  ·have:=Hs h e
   split at this
   ·rename_i G
    obtain rfl:=List.mem_singleton.1 this;unfold Text.hasAt at G;split at G
    ·rename_i b u
     exact one (i+1) (by omega) (List.getElem?_eq_some_iff.1 u).1
    · cases G
   · cases this
  ·split at h
   · exact c (fun a t=>Vm y _ a D (fun q z=>by
     obtain rfl:=List.mem_singleton.1 z;exact one i (Nat.le_refl _) d) t) h p e
   ·split at h
    · exact c (fun a t=>Za y i l a D d E t) h p e
    ·split at h
     ·refine c (fun a t=>?_) h p e
      split at t
      · exact repAll_ok (D _ (by simp)) I lo hi i l a d E t
      ·have:=Option.some.inj t
       subst this;intro q z;cases z
     ·split at h
      ·cases y with
       |nil=>
        have:=Hs (n:=T.s.length) (l:= []) (by simpa using h) e;cases this
       |cons f r=>
        simp only at h;cases A:f i l with
        | none=>rw[A]at h;cases h
        |some a=>
         rw[A,Option.bind_some]at h;obtain⟨q,z,rfl⟩:=List.mem_map.1 (Hs h e);obtain⟨B,C,J,K⟩:=D f (by simp) i l a d E A q z;exact⟨B,C,by rw[Ha];exact J,Xu K g (.inr ⟨by simp,by simpa using B,by simpa using C⟩)⟩
      ·split at h
       ·have:=Hs h e
        split at this
        ·obtain rfl:=List.mem_singleton.1 this
         exact one i (Nat.le_refl _) d
        · cases this
       ·split at h
        ·have:=Hs h e
         split at this
         ·obtain rfl:=List.mem_singleton.1 this
          exact one i (Nat.le_refl _) d
         · cases this
        ·split at h
         ·have:=Hs h e
          unfold Text.back at this;split at this
          ·rename_i a b L
           split at this
           ·rename_i M
            obtain rfl:=List.mem_singleton.1 this;exact one _ (by omega) M.2.1
           · cases this
          · cases this
         ·have:=Option.some.inj h
          subst this;cases e
mutual
theorem Dd (T:Text):∀(e:Re),Good T.s.length (T.parses e)
 | .mk o s l h g args=>by
   unfold Text.parses;exact node_ok T o s l h g _ _ (Wt T args)
theorem Wt (T:Text):∀(l:List Re),∀f∈T.parsesL l,Good T.s.length f
 | [],f,hf=>by unfold Text.parsesL at hf;cases hf
 | x::r,f,hf=>by
   unfold Text.parsesL at hf;rcases List.mem_cons.1 hf with rfl | hf
   · exact Dd T x
   · exact Wt T r f hf
end
end MatchMath
namespace MatchMath
theorem Ks {f:F} {j:List Span->List Span} (lo hi:Int):∀(a:Nat) (c:Int) (p:Parse) (b g:RSt),b.1.length<=most->visit f j lo hi a c p b=some g->b.1.length<=g.1.length/\g.1.length<=most
 | 0,_,_,_,_,_,h=>by cases h
 |a+1,c,p,b,g,hst,h=>by
  unfold visit at h;simp only at h;generalize norm lo hi c=d at h;by_cases hs:(d,p)∈b.1
  ·rw[if_pos hs]at h
   obtain rfl:=Option.some.inj h;exact⟨Nat.le_refl _,hst⟩
  ·rw[if_neg hs]at h
   by_cases hb:most<b.1.length+1
   · rw[if_pos hb]at h;cases h
   ·rw[if_neg hb]at h
    have r:∀(l:List Parse) (s n:RSt),s.1.length<=most->l.foldlM (fun s q=>if p.1<q.1\/d<lo then visit f j lo hi a (d+1) q s else some s) s=some n->s.1.length<=n.1.length/\n.1.length<=most:=by
     intro l
     induction l with
     |nil=>
      intro s n t m;have:s=n:=by simpa using m
      subst this;exact⟨Nat.le_refl _,t⟩
     |cons x l ih=>
      intro s n t m;rw[List.foldlM_cons]at m;by_cases hc:p.1<x.1\/d<lo
      ·rw[if_pos hc]at m
       cases hv:visit f j lo hi a (d+1) x s with
       | none=>rw[hv]at m;cases m
       |some i=>
        rw[hv]at m;obtain⟨k1,k2⟩:=Ks lo hi a _ x s i t hv;obtain⟨k3,k4⟩:=ih i n k2 m;exact⟨Nat.le_trans k1 k3,k4⟩
      ·rw[if_neg hc]at m
       exact ih s n t m
    have u:(b.1++ [(d,p)]).length=b.1.length+1:=by simp
    have o:∀(i:RSt),(b.1++ [(d,p)]).length<=i.1.length/\i.1.length<=most->(i.1,if lo<=d then i.2++ [p] else i.2)=g->b.1.length<=g.1.length/\g.1.length<=most:=by
     intro i y e;rw[<- e];simp only;omega
    by_cases hg:hi= -1\/d<hi
    ·rw[if_pos hg]at h
     cases hfl:f p.1 (j p.2) with
     | none=>rw[hfl]at h;cases h
     |some l=>
      rw[hfl,Option.bind_some]at h;cases hx:l.foldlM (fun s q=>if p.1<q.1\/d<lo then visit f j lo hi a (d+1) q s else some s) (b.1++ [(d,p)],b.2) with
      | none=>rw[hx]at h;cases h
      |some i=>
       rw[hx]at h;exact o i (r l (b.1++ [(d,p)],b.2) i (by rw[u];omega) hx) (by simpa using h)
    ·rw[if_neg hg]at h
     exact o (b.1++ [(d,p)],b.2) ⟨Nat.le_refl _,by rw[u];omega⟩ (by simpa using h)
theorem clear_at:∀(a:List Int) (l:List Span) (i:Nat),(clear a l)[i]? =(l[i]?).map fun x=>if ((i:Int)+1)∈a then Cj else x
 | [],l,i=>by
   show l[i]? =_;cases l[i]? <;> simp
 | g::a,l,i=>by
   show (clear a (Di l g Cj))[i]? =_;rw[clear_at a];unfold Di;by_cases hg:1<=g
   ·rw[if_pos hg,List.getElem?_set]
    by_cases hi:g.toNat-1=i
    ·rw[if_pos hi]
     have e:(i:Int)+1=g:=by omega
     by_cases hl:g.toNat-1<l.length
     ·rw[if_pos hl]
      have:l[i]? =some l[i]:=List.getElem?_eq_getElem (by omega);rw[this];simp[e]
     ·rw[if_neg hl]
      have:l[i]? =none:=List.getElem?_eq_none (by omega);rw[this];rfl
    ·rw[if_neg hi]
     have e:(i:Int)+1≠g:=by omega
     simp[e]
   ·rw[if_neg hg]
    have e:(i:Int)+1≠g:=by omega
    simp[e]
theorem Ps (a b:List Int) (l:List Span):clear (a++b) l=clear b (clear a l):=by
 unfold clear;rw[List.foldl_append]
mutual
def inner:Re->Int->Bool
 | .mk o _ _ _ g args,k=>(decide (o=6/\g=k))||Dz args k
def Dz:List Re->Int->Bool
 | [],_=>false
 | x::r,k=>inner x k||Dz r k
end
mutual
theorem inner_eq:∀(e:Re) (k:Int),inner e k=decide (k∈Ap e)
 | .mk o s l h g args,k=>by
   unfold inner Ap;rw[Zq args k];by_cases ho:o=6
   ·rw[if_pos ho]
    by_cases hg:g=k
    · simp[ho,hg]
    ·have:k≠g:=fun e=>hg e.symm
     simp[ho,hg,this]
   ·rw[if_neg ho]
    simp[ho]
theorem Zq:∀(l:List Re) (k:Int),Dz l k=decide (k∈Bh l)
 | [],k=>by unfold Dz Bh;simp
 | x::r,k=>by
   unfold Dz Bh;rw[inner_eq x k,Zq r k];simp
end
end MatchMath
namespace MatchMath
def Gt (T:Text) (e:Re) (i:Nat):Option (Option Parse):=(T.parses e i (List.replicate (Af 6 e) Cj)).map List.head?
def Bp (T:Text) (e:Re):Nat->Nat->Option (Option (Nat×Parse))
 | 0,_=>some none
 |n+1,i=>match Gt T e i with
  | none=>none
  | some (some p)=>some (some (i,p))
  | some none=>Bp T e n (i+1)
def leftmost (T:Text) (e:Re) (i:Nat):Option (Option (Nat×Parse)):=Bp T e (T.s.length+1-i) i
def Am (i:Nat) (p:Parse):List Span:=((i:Int),(p.1:Int))::p.2
def Bu (T:Text) (e:Re) (l:List (List Span)):Nat->Nat->Int->Nat->List (Int×Int)->List (Int×Int)
 | 0,_,_,_,out=>out
 |n+1,i,last,k,out=>
  if T.s.length<i then (if k<l.length then out++ [(4,(k:Int))] else out)
  else match leftmost T e i with
   | none=>out++ [(5,(k:Int))]
   | some none=>if k<l.length then out++ [(4,(k:Int))] else out
   |some (some (a,p))=>
    if a=p.1/\(a:Int)=last then Bu T e l n (a+1) last k out
    else match l[k]? with
     | none=>out++ [(3,(k:Int))]
     | some m=>Bu T e l n (if a=p.1 then p.1+1 else p.1) (p.1:Int) (k+1) (if m=Am a p then out else out++ [(2,(k:Int))])
def Hi (T:Text) (e:Re) (l:List (List Span)):List (Int×Int):=Bu T e l (T.s.length+2) 0 (-1) 0 []
theorem Ik (n k:Nat):SpOk n (List.replicate k Cj):=fun x hx=>.inl (List.eq_of_mem_replicate hx)
theorem matchAt_ok {T:Text} {e:Re} {i:Nat} {p:Parse} (hi:i<=T.s.length) (h:Gt T e i=some (some p)):POk T.s.length (Af 6 e) i p:=by
 unfold Gt at h;cases hp:T.parses e i (List.replicate (Af 6 e) Cj) with
 | none=>rw[hp]at h;cases h
 |some m=>
  rw[hp]at h;have a:m.head? =some p:=by simpa using h
  have:=Dd T e i _ m hi (Ik _ _) hp p (List.mem_of_mem_head? a);simpa using this
theorem Td {T:Text} {e:Re}:∀(n i a:Nat) (p:Parse),i+n<=T.s.length+1->Bp T e n i=some (some (a,p))->i<=a/\a<=T.s.length/\POk T.s.length (Af 6 e) a p
 | 0,_,_,_,_,h=>by simp[Bp]at h
 |n+1,i,a,p,hn,h=>by
  unfold Bp at h;cases hm:Gt T e i with
  | none=>rw[hm]at h;cases h
  |some o=>
   rw[hm]at h;cases o with
   |none=>
    obtain⟨h1,h2⟩:=Td n (i+1) a p (by omega) h;exact⟨by omega,h2⟩
   |some q=>
    simp only[Option.some.injEq,Prod.mk.injEq]at h;obtain⟨rfl,rfl⟩:=h;exact⟨Nat.le_refl _,by omega,matchAt_ok (by omega) hm⟩
theorem Te {T:Text} {e:Re} {i a:Nat} {p:Parse} (hi:i<=T.s.length) (h:leftmost T e i=some (some (a,p))):i<=a/\a<=p.1/\p.1<=T.s.length/\p.2.length=Af 6 e:=by
 obtain⟨b,j,c,d,g,l⟩:=Td _ i a p (by omega) h;exact⟨b,c,d,g⟩
end MatchMath
end Go.Proofs.YtjefcpjciogcjaaGreatDoor
