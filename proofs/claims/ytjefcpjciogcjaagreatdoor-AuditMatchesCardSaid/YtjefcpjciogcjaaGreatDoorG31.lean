/- The arguments of AuditMatches as they come in: a compiled regular expression, a list of matches. No condition. -/
import Derived.Test.YtjefcpjciogcjaaGreatDoorG7
import Derived.Test.YtjefcpjciogcjaaGreatDoorG25
import Derived.Test.YtjefcpjciogcjaaGreatDoorG1
namespace Go.Proofs.YtjefcpjciogcjaaGreatDoor
set_option maxRecDepth 100000
set_option linter.unusedVariables false
open Tryz
namespace ReMem
open Go Go.ChangeShapes Go.WideShapes Go.ChangeAt Go.RowKit MatchMath
section
variable {H:Type} {enc:TypeId×Value->H} {W:World}
theorem span_of {n:Nat} {cs:List Value} {x:DataW H×List MemPlace} (h:DataW.trod enc Tryz.prog W 0 (fun _=>true) true n 53 cs=some x):∃p:Span,cs= [.int .i64 p.1,.int .i64 p.2]:=by
 obtain⟨o,m,_,_,a,c,j⟩:=DataW.trod_struct underlying53 h;have b:cs.length=2:=a.trans (by kernel_rfl);have l:o.length=2:=c;have g:=j 0 _ rfl;have i:=j 1 _ rfl;rw[List.getElem?_eq_getElem (by omega)]at g i;obtain⟨q,d,_,_⟩:=DataW.trod_int underlying3 g;obtain⟨r,e,_,_⟩:=DataW.trod_int underlying3 i
 match cs,b with
 | [c0,c1],_=>
   simp[show Tryz.prog.cellsOf 3=1 from by kernel_rfl]at d e;subst d e;exact⟨(q,r),rfl⟩
theorem spans_of {n:Nat} {cs:List Value} {x:DataW H×List MemPlace} (h:DataW.trod enc Tryz.prog W 0 (fun _=>true) true n 40 cs=some x):∃v l,cs= [v]/\SpRd W v l:=by
 rcases DataW.trod_slice underlying40 h with ⟨rfl,_⟩ | ⟨a,len,A,B,L,m,R,rfl,_,_,P,Q,I,C,_,_⟩
 · exact⟨_,[],rfl,none,0,rfl,⟨ql,Nat.zero_le _⟩,fun h=>absurd rfl h⟩
 ·have r:∀i,i<len->∃p:Span,∀j u,([.int .i64 p.1,.int .i64 p.2]:List Value)[j]? =some u->W.cell? ((a.add (i*2)).add j)=some u:=by
   intro i hi;have G:=C i hi;rw[List.getElem?_eq_getElem (by omega),show Tryz.prog.cellsOf 53=2 from by kernel_rfl]at G;obtain⟨M,N,O⟩:=Option.bind_eq_some_iff.1 G;obtain⟨p,rfl⟩:=span_of O;obtain⟨_,_,d⟩:=World.cells?_some N;exact⟨p,fun j u q=>by rw[d j (by have:=(List.getElem?_eq_some_iff.1 q).1;simpa using this)];exact q⟩
  obtain⟨f,D⟩:=Go.Deep.choose_lt r;have y:((List.range len).map f).length=len:=by simp
  refine⟨_,(List.range len).map f,rfl,some a,A,by rw[y],by rw[y];exact⟨P,Q⟩,fun E=>?_⟩;have z:0<len:=by
   rcases Nat.eq_zero_or_pos len with t | t
   · subst t;simp at E
   · exact t
  obtain⟨b,off,spot⟩:=a;have t:=D 0 z 0 _ rfl;have g:spot=none:=by simpa [Addr.add] using World.cell?_spot t
  subst g;refine⟨b,off,rfl,fun j x q=>?_⟩;have e:j<len:=by have:=(List.getElem?_eq_some_iff.1 q).1;omega
  rw[List.getElem?_map,List.getElem?_range e]at q;obtain rfl:f j=x:=by simpa using q
  have c:∀o k,(⟨b,o,none⟩:Addr).add k=⟨b,o+k,none⟩:=fun o k=>by unfold Addr.add;split <;> simp_all
  have J:=D j e 0 _ rfl;have K:=D j e 1 _ rfl;rw[c,c]at J K;exact⟨J,K⟩
theorem matches_of {n:Nat} {cs:List Value} {x:DataW H×List MemPlace} (h:DataW.trod enc Tryz.prog W 0 (fun _=>true) true n 31 cs=some x):∃v l,cs= [v]/\MLies W v l:=by
 rcases DataW.trod_slice underlying31 h with ⟨rfl,_⟩ | ⟨a,len,z,A,P,m,hn,rfl,_,_,T,U,N,C,_,_⟩
 · exact⟨_,[],rfl,none,0,rfl,⟨ql,Nat.zero_le _⟩,fun h=>absurd rfl h⟩
 ·have r:∀i,i<len->∃p:List Span×Value,W.cell? (a.add (i*1))=some p.2/\SpRd W p.2 p.1:=by
   intro i hi;have M:=C i hi;rw[List.getElem?_eq_getElem (by omega),show Tryz.prog.cellsOf 42=1 from by kernel_rfl]at M;obtain⟨q,Q,R⟩:=Option.bind_eq_some_iff.1 M;obtain⟨Y,k,_,_,B,J,S⟩:=DataW.trod_struct underlying42 R;have G:q.length=1:=B.trans (by kernel_rfl);have V:Y.length=1:=J;have L:=S 0 _ rfl;rw[List.getElem?_eq_getElem (by omega)]at L;obtain⟨v,X,K,c⟩:=spans_of L;obtain⟨_,_,d⟩:=World.cells?_some Q
   match q,G with
   | [c0],_=>
     simp[show Tryz.prog.cellsOf 40=1 from by kernel_rfl]at K;subst K;refine⟨(X,c0),?_,c⟩;have:=d 0 (by simp);simpa [Addr.add] using this
  haveI:Inhabited (List Span×Value):=⟨([],.bool false)⟩
  obtain⟨f,D⟩:=Go.Deep.choose_lt r;have c:((List.range len).map fun i=>(f i).1).length=len:=by simp
  refine⟨_,(List.range len).map fun i=>(f i).1,rfl,some a,z,by rw[c],by rw[c];exact⟨T,U⟩,fun I=>?_⟩;have y:0<len:=by
   rcases Nat.eq_zero_or_pos len with t | t
   · subst t;simp at I
   · exact t
  obtain⟨b,off,spot⟩:=a;have t:=(D 0 y).1;have g:spot=none:=by simpa [Addr.add] using World.cell?_spot t
  subst g;refine⟨b,off,rfl,fun j x E=>?_⟩;have e:j<len:=by have:=(List.getElem?_eq_some_iff.1 E).1;omega
  rw[List.getElem?_map,List.getElem?_range e]at E;obtain rfl:(f j).1=x:=by simpa using E
  have u:∀o k,(⟨b,o,none⟩:Addr).add k=⟨b,o+k,none⟩:=fun o k=>by unfold Addr.add;split <;> simp_all
  have O:=(D j e).1;rw[u,Nat.mul_one]at O;exact⟨_,O,(D j e).2⟩
theorem regex_of {n:Nat} {cs:List Value} {x:DataW H×List MemPlace} (h:DataW.trod enc Tryz.prog W 0 (fun _=>true) true n 30 cs=some x):
   ∃(p:ByteArray) (f K:Int) (v:Value) (e:Re),(∃us:List Value,Bn p f K v e=.agg us.toArray/\cs=us)/\Ag e/\Lies W v e.args:=by
 obtain⟨S,m,_,_,d,i,c⟩:=DataW.trod_struct underlying30 h;have b:cs.length=12:=d.trans (by kernel_rfl);have L:S.length=4:=i;have C:=c 0 _ rfl;have D:=c 1 _ rfl;have E:=c 2 _ rfl;have G:=c 3 _ rfl;rw[List.getElem?_eq_getElem (by omega)]at C D E G;obtain⟨p,l,_⟩:=DataW.trod_string underlying9 C;obtain⟨z1,o,_,_⟩:=DataW.trod_int underlying3 D;obtain⟨z2,r,_,_⟩:=DataW.trod_int underlying3 E;obtain⟨Y,k,_,_,I,j,a⟩:=DataW.trod_struct underlying28 G;have M:Y.length=6:=j;have J:=a 0 _ rfl;have k1:=a 1 _ rfl;have k2:=a 2 _ rfl;have k3:=a 3 _ rfl;have k4:=a 4 _ rfl;have k5:=a 5 _ rfl;rw[List.getElem?_eq_getElem (by omega)]at J k1 k2 k3 k4 k5;obtain⟨T,t,_,O⟩:=DataW.trod_int underlying3 J;obtain⟨q,u⟩:=Args2.Vo k1;obtain⟨U,y,_,P⟩:=DataW.trod_int underlying3 k2;obtain⟨V,z,_,Q⟩:=DataW.trod_int underlying3 k3;obtain⟨X,A,_,R⟩:=DataW.trod_int underlying3 k4;obtain⟨v,N,B,g⟩:=trees_of _ _ _ k5
 match cs,b with
 | [c0,c1,c2,c3,c4,c5,c6,c7,c8,c9,c10,c11],_=>
   simp[show Tryz.prog.cellsOf 3=1 from by kernel_rfl,show Tryz.prog.cellsOf 9=1 from by kernel_rfl,show Tryz.prog.cellsOf 28=9 from by kernel_rfl,show Tryz.prog.cellsOf 25=4 from by kernel_rfl,show Tryz.prog.cellsOf 26=1 from by kernel_rfl]at l o r t u y z A B;obtain⟨rfl,rfl,rfl,rfl⟩:=u;subst l o r t y z A B;exact⟨p,z1,z2,c11,.mk T q U V X N,⟨_,rfl,rfl⟩,⟨bounds_i64 O,bounds_i64 P,bounds_i64 Q,bounds_i64 R⟩,g⟩
theorem open_regex {r:Reach} {i:Nat} {v:Value} {d:DataW H} {p:List MemPlace} (u:Value.okWide Tryz.prog W r i 30 v) (h:DataW.Trod enc Tryz.prog W 0 (fun _=>true) true 30 v d p):
  ∃(s:ByteArray) (f b:Int) (a:Value) (e:Re),v=Bn s f b a e/\Ag e/\Lies W a e.args:=by
 obtain⟨j,rfl,t⟩:=okWide_struct underlying30 u;obtain⟨g,q⟩:=h;obtain⟨s,f,b,a,e,⟨x,m,c⟩,n,o⟩:=regex_of q;refine⟨s,f,b,a,e,?_,n,o⟩;rw[m];obtain⟨l⟩:=j;simp[Value.cells]at c;rw[c]
theorem open_matches {r:Reach} {c:Nat} {v:Value} {d:DataW H} {p:List MemPlace} (m:Value.okWide Tryz.prog W r c 31 v) (h:DataW.Trod enc Tryz.prog W 0 (fun _=>true) true 31 v d p):
  ∃l,MLies W v l:=by
 obtain⟨a,len,g,rfl⟩:=okWide_slice underlying31 m;obtain⟨b,i⟩:=h;obtain⟨v,l,e,j⟩:=matches_of i;simp[Value.cells]at e;subst e;exact⟨l,j⟩
end
end ReMem
end Go.Proofs.YtjefcpjciogcjaaGreatDoor
