/- Lemmas for the walk of the law, in 4 parts. No condition beyond what each states. -/
import Derived.Test.YtjefcpjciogcjaaGreatDoorG8
namespace Go.Proofs.YtjefcpjciogcjaaGreatDoor
set_option maxRecDepth 100000
set_option linter.unusedVariables false
set_option maxHeartbeats 16000000
open Tryz
namespace ReMem
open Go Go.RowKit MatchMath SortMath
theorem two_set {α:Type} (a b c:List α) (x y:α) (i j:Nat) (hi:a.length=i) (d:a.length+1+b.length=j):
  ((a++x::(b++y::c)).set i y).set j x=a++y::(b++x::c):=by
 subst hi d;rw[List.set_append_right _ _ ql,Nat.sub_self,List.set_cons_zero,List.set_append_right _ _ (by omega),show a.length+1+b.length-a.length=b.length+1 by omega,List.set_cons_succ,List.set_append_right _ _ ql,Nat.sub_self,List.set_cons_zero]
theorem rng_form {α:Type} (A U B V C:List α) (i:Nat) (x y:α) (c:U[i]? =some x) (d:V[i]? =some y):
  A++(V.take i++(U.drop i++(B++(U.take i++(V.drop i++C)))))=(A++V.take i)++x::((U.drop (i+1)++(B++U.take i))++y::(V.drop (i+1)++C)):=by
 obtain⟨a,rfl⟩:=List.getElem?_eq_some_iff.1 c;obtain⟨b,rfl⟩:=List.getElem?_eq_some_iff.1 d;rw[List.drop_eq_getElem_cons a,List.drop_eq_getElem_cons b];simp only[List.append_assoc,List.cons_append]
theorem rng_form2 {α:Type} (A U B V C:List α) (i:Nat) (x y:α) (c:U[i]? =some x) (d:V[i]? =some y):
  A++(V.take (i+1)++(U.drop (i+1)++(B++(U.take (i+1)++(V.drop (i+1)++C)))))=(A++V.take i)++y::((U.drop (i+1)++(B++U.take i))++x::(V.drop (i+1)++C)):=by
 obtain⟨a,rfl⟩:=List.getElem?_eq_some_iff.1 c;obtain⟨b,rfl⟩:=List.getElem?_eq_some_iff.1 d;rw[List.take_succ_eq_append_getElem a,List.take_succ_eq_append_getElem b];simp only[List.append_assoc,List.cons_append,List.nil_append]
theorem Ke (g S c n a b k:Nat) (A U B V C:List El) (w:World) (hB:PB w g S (A++(U++(B++(V++C))))) (K:V.length=U.length) (hn:(A++(U++(B++(V++C)))).length=n) (O:n<=1099511627776)
  (ha:A.length=a) (Q:A.length+U.length+B.length=b) (R:U.length=k):
  Calls Tryz.prog 246 #[.slice (some ⟨g,0,none⟩) n c,.int .i64 a,.int .i64 b,.int .i64 k,.func (.func 208) #[] #[]] w (BPost w g S (A++(V++(B++(U++C))))):=by
 have M:b+k<=n:=by rw[<- hn,<-Q,<-R];simp;omega
 have L:a+k<=b:=by rw[<- ha,<-Q,<-R];omega
 have HN:=qh hn;have HA:=qh ha;have T:=qh Q;have l:=qh R;have j:=qh K;have HB:=qh hB;have a3:=qh M;have a2:=qh L;have a1:(n:Int)<=1099511627776:=by omega
 have q1:(b:Int)+(k:Int)<=(n:Int):=by omega
 have q2:(a:Int)+(k:Int)<=(b:Int):=by omega
 clear hn ha Q R K hB M L O;go_enter func246,ntmps246;go_wp2
 go_loopw [10] (fun i wr=>∃q:Nat,i=.int .i64 (q:Int)/\q<=k/\PB wr g S (A++(V.take q++(U.drop q++(B++(U.take q++(V.drop q++C))))))/\Chg (fun b=>b=g) w wr) (fun i _=>k-(intOf i).toNat)
 case atStart=>exact⟨0,rfl,Nat.zero_le _,by simpa using HB.o,Chg.of (Below.refl _ _)⟩
 case round=>
  obtain⟨q,rfl,a0,P,m⟩:=hrel;have r:=qh P;have t:=qh m;clear P m;by_cases hlt:q<k
  ·have b1:(q:Int)< (k:Int):=by omega
   obtain⟨x,hx⟩:∃x,U[q]? =some x:=⟨_,List.getElem?_eq_getElem (by rw[l.o];exact hlt)⟩;obtain⟨y,hy⟩:∃y,V[q]? =some y:=⟨_,List.getElem?_eq_getElem (by rw[j.o,l.o];exact hlt)⟩;have HF:=qh (rng_form A U B V C q x y hx hy);have W:=qh (rng_form2 A U B V C q x y hx hy);have p:Hid ((A++V.take q).length=a+q):=by show _=_;rw[List.length_append,List.length_take,HA.o,j.o,l.o,Nat.min_eq_left a0]
   have G:Hid ((A++V.take q).length+1+(U.drop (q+1)++(B++U.take q)).length=b+q):=by
    show _=_;rw[p.o];have e1:=T.o;have e2:=l.o;have e3:=HA.o;simp only[List.length_append,List.length_drop,List.length_take];omega
   clear hx hy;have d:Hid (PB wr g S ((A++V.take q)++x::((U.drop (q+1)++(B++U.take q))++y::(V.drop (q+1)++C)))):=by
    have e:=r.o;rw[HF.o]at e;exact e
   clear r HF;have u:Hid (((A++V.take q)++x::((U.drop (q+1)++(B++U.take q))++y::(V.drop (q+1)++C)))[a+q]? =some x):=by
    show _=_;rw[<- p.o,List.getElem?_append_right ql,Nat.sub_self];rfl
   have z:Hid (((A++V.take q)++x::((U.drop (q+1)++(B++U.take q))++y::(V.drop (q+1)++C)))[b+q]? =some y):=by
    show _=_;rw[<- G.o,List.getElem?_append_right (by omega),show (A++V.take q).length+1+(U.drop (q+1)++(B++U.take q)).length-(A++V.take q).length=(U.drop (q+1)++(B++U.take q)).length+1 by omega,List.getElem?_cons_succ,List.getElem?_append_right ql,Nat.sub_self];rfl
   obtain⟨d1,d2⟩:=d.o.at u.o;obtain⟨d3,d4⟩:=d.o.at z.o;have z1:=d.o.free ((a+q)*2);have z2:=d.o.free ((a+q)*2+1);have z3:=d.o.free ((b+q)*2);have z4:=d.o.free ((b+q)*2+1);obtain⟨x,xa,xn,xc⟩:=x;obtain⟨y,ya,yn,yc⟩:=y;simp only at d1 d2 d3 d4;obtain⟨I,X⟩:∃I,a+q=I:=⟨_,rfl⟩;obtain⟨J,Y⟩:∃J,b+q=J:=⟨_,rfl⟩;have i1:(a:Int)+(q:Int)=(I:Int):=by omega
   have i2:(b:Int)+(q:Int)=(J:Int):=by omega
   rw[X]at d1 d2 z1 z2;rw[Y]at d3 d4 z3 z4;have D:=qh X;have E:=qh Y;have j1:(I:Int)< (n:Int):=by omega
   have j2:(J:Int)< (n:Int):=by omega
   clear X Y;go_wp2
   go_region
   all_goals
    go_wp2;go_roundw
    case rel=>exact⟨q+1,by go_num,by omega,by
     have e:=(d.o.swap I J x xa xn xc y ya yn yc (by rw[<- D.o];exact (List.getElem?_eq_some_iff.1 u.o).1) (by rw[<- E.o];exact (List.getElem?_eq_some_iff.1 z.o).1)).drew;rw[two_set _ _ _ _ _ I J (by rw[<- D.o];exact p.o) (by rw[<- E.o];exact G.o),<-W.o]at e;exact e,t.o.then (Chg.swap _ _ _ _ _ _ _ _ _ _)⟩
    case measure=>simp[intOf];omega
  ·have N:q=k:=by omega
   have b1:¬(q:Int)< (k:Int):=by omega
   have h:=qh N;clear N;go_wp2;go_end0;refine⟨rfl,?_,t.o⟩;have e:=r.o;rw[List.take_of_length_le (Nat.le_of_eq (by rw[j.o,l.o,h.o])),List.drop_eq_nil_of_le (Nat.le_of_eq (by rw[l.o,h.o])),List.take_of_length_le (Nat.le_of_eq (by rw[l.o,h.o])),List.drop_eq_nil_of_le (Nat.le_of_eq (by rw[j.o,l.o,h.o]))]at e;simpa using e
theorem Qd {α:Type} (l:List α) (k:Nat) (h:k<=l.length):∃x y,l=x++y/\x.length=k:=⟨l.take k,l.drop k,(List.take_append_drop k l).symm,by rw[List.length_take];omega⟩
theorem rotate_any (g S c n a m b:Nat) (A U V C:List El) (w:World) (hB:PB w g S (A++(U++(V++C)))) (hn:(A++(U++(V++C))).length=n) (a2:n<=1099511627776)
  (ha:A.length=a) (hm:A.length+U.length=m) (hb:A.length+U.length+V.length=b) (hU:0<U.length) (hV:0<V.length):
  Calls Tryz.prog 245 #[.slice (some ⟨g,0,none⟩) n c,.int .i64 a,.int .i64 m,.int .i64 b,.func (.func 208) #[] #[]] w (BPost w g S (A++(V++(U++C)))):=by
 have a8:b<=n:=by rw[<- hn,<-hb];simp;omega
 have HN:=qh hn;have HM:=qh hm;have HB:=qh hB;obtain⟨K,a0⟩:∃K,U.length=K:=⟨_,rfl⟩;obtain⟨M,a1⟩:∃M,V.length=M:=⟨_,rfl⟩;have O:=qh a0;have a4:=qh a1;have e1:(m:Int)-(a:Int)=(K:Int):=by omega
 have e2:(b:Int)-(m:Int)=(M:Int):=by omega
 have b3:(n:Int)<=1099511627776:=by omega
 have q1:(b:Int)<=(n:Int):=by omega
 have q2:(a:Int)<=(m:Int):=by omega
 have q3:(m:Int)<=(b:Int):=by omega
 have P:Hid (0<K/\0<M/\m+M=b/\a+K=m):=⟨by omega,by omega,by omega,by omega⟩;obtain⟨T,hT⟩:∃T,A++(V++(U++C))=T:=⟨_,rfl⟩;rw[hT];have HT:=qh hT;clear hn ha hm hb hB hU hV a2 a8 a0 a1 hT;go_enter func245,ntmps245;go_wp2
 go_loopw [10,11] (fun vi vj wr=>∃(i j:Nat) (L X Y R:List El),vi=.int .i64 (i:Int)/\vj=.int .i64 (j:Int)/\Hid (X.length=i)/\Hid (Y.length=j)/\Hid (L.length+i=m)/\Hid (0<i/\0<j)/\Hid (L++(Y++(X++R))=T)/\Hid ((L++(X++(Y++R))).length=n)/\PB wr g S (L++(X++(Y++R)))/\Chg (fun b=>b=g) w wr) (fun vi vj _=>(intOf vi).toNat+(intOf vj).toNat)
 case atStart=>exact⟨K,M,A,U,V,C,rfl,rfl,O,a4,by show _=_;have:=HM.o;have:=O.o;omega,⟨P.o.1,P.o.2.1⟩,HT,HN,HB.o,Chg.of (Below.refl _ _)⟩
 case round=>
  obtain⟨i,j,L,X,Y,R,rfl,rfl,t,J,x,HP,E,p,a3,y⟩:=hrel;have D:=qh a3;have z:=qh y;clear a3 y;have b0:m+j<=n:=by have h1:=p.out;have h2:=t.out;have h3:=J.out;have h4:=x.out;simp only[List.length_append]at h1;omega
  have b4:i<=m:=by have:=x.out;omega
  obtain⟨s,hs⟩:∃s,L.length=s:=⟨_,rfl⟩;have HS:=qh hs;have r1:(m:Int)-(i:Int)=(s:Int):=by have:=x.out;omega
  have r3:(m:Int)+(j:Int)<=(n:Int):=by omega
  clear hs b0;rcases Nat.lt_trichotomy i j with G | G | G
  ·obtain⟨Y1,Y2,rfl,I⟩:=Qd Y (j-i) (by rw[J.out];omega)
   have a7:=qh I;have Q:Hid (Y2.length=i):=by show _=_;have:=J.out;rw[List.length_append]at this;omega
   have b1:((i:Int) != (j:Int))=true:=by simp;omega
   have b2:¬(j:Int)< (i:Int):=by omega
   obtain⟨d,W⟩:∃d,j-i=d:=⟨_,rfl⟩;have r2:(j:Int)-(i:Int)=(d:Int):=by omega
   obtain⟨m2,a9⟩:∃m2,m+d=m2:=⟨_,rfl⟩;have r4:(m:Int)+(j:Int)-(i:Int)=(m2:Int):=by omega
   have N:=qh (Ke g S c n s m2 i L X Y1 Y2 R wr (by have:=D.o;simpa using this) (by rw[Q.o,t.out]) (by have:=p.out;simpa using this) (by omega) HS.o (by rw[HS.o,t.out,I];have:=x.out;have:=HS.o;omega) t.out);have B:=qh W;clear I W a9;go_wp2_with (first
    | (go_at_call 246
       (refine N.o.mono ?_);rintro e w1 ⟨rfl,l,h⟩;have r:=qh l;have q:=qh (z.o.then h);clear l h))
   go_roundw
   case rel=>exact⟨i,d,L,Y2,Y1,X++R,rfl,by go_num,Q,by show _=_;rw[a7.o,B.o],x,by have:=HP.out;have:=B.o;exact⟨by omega,by omega⟩,by show _=_;rw[<- E.out];simp,by show _=_;rw[<- p.out];simp;omega,by have:=r.o;simpa using this,q.o⟩
   case measure=>have:=HP.out;have:=B.o;simp[intOf];omega
  ·subst G
   have b1:((i:Int) != (i:Int))=false:=by simp
   have N:=qh (Ke g S c n s m i L X [] Y R wr (by have:=D.o;simpa using this) (by rw[J.out,t.out]) (by have:=p.out;simpa using this) (by omega) HS.o (by rw[HS.o,t.out];have:=x.out;have:=HS.o;simp;omega) t.out);go_wp2_with (first
    | (go_at_call 246
       (refine N.o.mono ?_);rintro e w1 ⟨rfl,l,h⟩;have r:=qh l;have q:=qh (z.o.then h);clear l h))
   go_end0;exact⟨rfl,by have e:=r.o;rw[List.nil_append,E.out]at e;exact e,q.o⟩
  ·obtain⟨X1,X2,rfl,u⟩:=Qd X j (by rw[t.out];omega)
   have a5:=qh u;obtain⟨d,W⟩:∃d,i-j=d:=⟨_,rfl⟩;have a6:Hid (X2.length=d):=by show _=_;have:=t.out;rw[List.length_append]at this;omega
   have b1:((i:Int) != (j:Int))=true:=by simp;omega
   have b2:(j:Int)< (i:Int):=by omega
   have r2:(i:Int)-(j:Int)=(d:Int):=by omega
   have N:=qh (Ke g S c n s m j L X1 X2 Y R wr (by have:=D.o;simpa using this) (by rw[J.out,u]) (by have:=p.out;simpa using this) (by omega) HS.o (by have h1:=t.out;rw[List.length_append]at h1;have:=x.out;omega) u);have B:=qh W;clear u W;go_wp2_with (first
    | (go_at_call 246
       (refine N.o.mono ?_);rintro e w1 ⟨rfl,l,h⟩;have r:=qh l;have q:=qh (z.o.then h);clear l h))
   go_roundw
   case rel=>exact⟨d,j,L++Y,X2,X1,R,by go_num,rfl,a6,a5,by show _=_;rw[List.length_append,J.out];have:=x.out;have:=B.o;omega,by have:=HP.out;have:=B.o;exact⟨by omega,by omega⟩,by show _=_;rw[<- E.out];simp,by show _=_;rw[<- p.out];simp;omega,by have:=r.o;simpa using this,q.o⟩
   case measure=>have:=HP.out;have:=B.o;simp[intOf];omega
end ReMem
namespace ReMem
open Go Go.RowKit MatchMath SortMath
def symPre (g S n a m b:Nat) (A U V C:List El) (w:World):Prop:=PB w g S (A++(U++(V++C)))/\(A++(U++(V++C))).length=n/\n<=1099511627776/\A.length=a/\a+U.length=m/\m+V.length=b/\0<U.length/\0<V.length/\Srt gtE U/\Srt gtE V/\∀x∈A++(U++(V++C)),0<=x.1/\x.1<=1048576
theorem in_V {α:Type} (A U V C:List α) (i:Nat) (x:α) (h:V[i]? =some x):(A++(U++(V++C)))[A.length+U.length+i]? =some x:=by
 have a:=(List.getElem?_eq_some_iff.1 h).1;rw[List.getElem?_append_right (by omega),List.getElem?_append_right (by omega),List.getElem?_append_left (by omega),show A.length+U.length+i-A.length-U.length=i by omega];exact h
theorem in_U {α:Type} (A U V C:List α) (i:Nat) (x:α) (h:U[i]? =some x):(A++(U++(V++C)))[A.length+i]? =some x:=by
 have a:=(List.getElem?_eq_some_iff.1 h).1;rw[List.getElem?_append_right (by omega),List.getElem?_append_left (by omega),show A.length+i-A.length=i by omega];exact h
theorem swap2_at {α:Type} (A D:List α) (x y:α):((A++x::y::D).set A.length y).set (A.length+1) x=A++y::x::D:=by
 rw[List.set_append_right _ _ ql,Nat.sub_self,List.set_cons_zero,List.set_append_right _ _ (Nat.le_succ _),show A.length+1-A.length=1 by omega];rfl
theorem symOne_any (g S c n a m b:Nat) (A V C:List El) (x:El) (w:World) (hp:symPre g S n a m b A [x] V C w):
  Calls Tryz.prog 237 #[.slice (some ⟨g,0,none⟩) n c,.int .i64 a,.int .i64 m,.int .i64 b,.func (.func 208) #[] #[]] w (BPost w g S (A++(Ao gtE [x] V++C))):=by
 obtain⟨hB,hn,a2,ha,hm,hb, -,hV, -,a4,hE⟩:=hp;simp only[List.length_singleton]at hm;have b4:b<=n:=by rw[<- hn,<-hb,<-hm,<-ha];simp;omega
 have HN:=qh hn;have HA:=qh ha;have HM:=qh hm;have G:=qh hb;have HB:=qh hB;have HE:=qh hE;have b0:=qh a4;have b6:(n:Int)<=1099511627776:=by omega
 have q1:(b:Int)<=(n:Int):=by omega
 have q2:(m:Int)<=(b:Int):=by omega
 have q3:(m:Int)-(a:Int)=1:=by omega
 have q4:(a:Int)< (n:Int):=by omega
 clear hn hm hb hB a2 b4 hE a4 ha hV;go_enter func237,ntmps237;go_wp2
 go_loopw [10,11] (fun vi vj wr=>∃(p q I J:Nat),vi=.int .i64 (I:Int)/\vj=.int .i64 (J:Int)/\Hid (I=m+p)/\Hid (J=m+q)/\p<=q/\q<=V.length/\Hid (p=0\/∃y,V[p-1]? =some y/\gtE x y=true)/\Hid (q=V.length\/∃y,V[q]? =some y/\gtE x y=false)/\PB wr g S (A++([x]++(V++C)))/\Chg (fun b=>b=g) w wr) (fun vi vj _=>(intOf vj).toNat-(intOf vi).toNat)
 case atStart=>exact⟨0,V.length,m,b,rfl,rfl,rfl,G.o.symm,Nat.zero_le _,ql,.inl rfl,.inl rfl,HB.o,Chg.of (Below.refl _ _)⟩
 case round=>
  obtain⟨p,q,I,J,rfl,rfl,U,R,e5,O,HP,HQ,D,h⟩:=hrel;have L:=qh D;have a0:=qh h;clear D h;have c9:(J:Int)<=(b:Int):=by have:=R.out;have:=G.o;omega
  by_cases hlt:p<q
  ·have b1:(I:Int)< (J:Int):=by have:=U.out;have:=R.out;omega
   obtain⟨e,he⟩:∃e,(p+q)/2=e:=⟨_,rfl⟩;obtain⟨K,hK⟩:∃K,m+e=K:=⟨_,rfl⟩;have b9:((I:Int)+(J:Int))/2=(K:Int):=by have:=U.out;have:=R.out;omega
   have u:=qh hK;have j:Hid (p<=e/\e<q):=⟨by omega,by omega⟩;have e0:(K:Int)< (n:Int):=by have:=R.out;omega
   obtain⟨y,W⟩:∃y,V[e]? =some y:=⟨_,List.getElem?_eq_getElem (by omega)⟩;have HY:=qh W;have l:Hid ((A++([x]++(V++C)))[K]? =some y):=by show _=_;have N:=in_V A [x] V C e y W;rw[show A.length+ [x].length+e=K by have:=HA.o;have:=HM.o;simp;omega]at N;exact N
   have t:Hid ((A++([x]++(V++C)))[a]? =some x):=by show _=_;have N:=in_U A [x] V C 0 x rfl;rw[HA.o]at N;exact N
   obtain⟨d1,d2⟩:=L.o.at l.o;obtain⟨d3,d4⟩:=L.o.at t.o;have a5:Hid (0<=x.1/\x.1<=1048576):=HE.o x (List.mem_of_getElem? t.o);have a6:Hid (0<=y.1/\y.1<=1048576):=HE.o y (List.mem_of_getElem? l.o);have a9:Hid (((0:Nat)=0)/\True):=⟨rfl,trivial⟩;clear he hK W;obtain⟨x,xa,xn,xc⟩:=x;obtain⟨y,Y,yn,yc⟩:=y;simp only at d1 d2 d3 d4;go_wp2;refine Vx (by kernel_rfl) (by kernel_rfl) ?_;intro X F hN i hF;have e1:∀z,(F z).cell? ⟨g,K*2,none⟩=some (.int .i64 y):=fun z=>upc (i z) d1;have e2:∀z,(F z).cell? ⟨g,K*2+1,none⟩=some (.slice Y yn yc):=fun z=>upc (i z) d2;have e3:∀z,(F z).cell? ⟨g,a*2,none⟩=some (.int .i64 x):=fun z=>upc (i z) d3;have e4:∀z,(F z).cell? ⟨g,a*2+1,none⟩=some (.slice xa xn xc):=fun z=>upc (i z) d4;have HC:=qh (fun z=>Um (y,Y,yn,yc) (x,xa,xn,xc) (F z) (a6.o) (a5.o));simp only at HC;repeat go_big_quiet_step (first
    | (go_at_call 208
       (with_reducible refine (HC.o _).mono ?_);rintro e w1 ⟨rfl,b3⟩;exact⟨rfl,hF _ _ b3⟩))
   refine wpQuiet_nil ?_;rintro _ ⟨z,rfl⟩;have d:=qh (L.o.stays (i z));have Q:=qh (a0.o.then (Chg.of (i z)));clear e1 e2 e3 e4 i hF;generalize F z=wz at*;by_cases hxy:x-y<0
   ·go_wp2
    go_roundw
    case rel=>exact⟨e+1,q,K+1,J,by go_num,rfl,by show _=_;have:=u.o;omega,R,by have:=j.o;omega,O,.inr ⟨(y,Y,yn,yc),HY.o,by simp[gtE];omega⟩,HQ,d.o,Q.o⟩
    case measure=>have:=j.o;have:=U.out;have:=R.out;have:=u.o;simp[intOf];omega
   ·go_wp2
    go_roundw
    case rel=>exact⟨p,e,I,K,rfl,by go_num,U,u.o.symm,j.o.1,by have:=j.o;omega,HP,.inr ⟨(y,Y,yn,yc),HY.o,by simp[gtE];omega⟩,d.o,Q.o⟩
    case measure=>have:=j.o;have:=U.out;have:=R.out;have:=u.o;simp[intOf];omega
  ·have a3:q=p:=by omega
   subst a3;have a1:=qh (one_at Dy b0.o (x:=x) O HP.out HQ.out);have a8:Hid (I=J):=by show _=_;rw[U.out,R.out]
   have b1:¬(I:Int)< (J:Int):=by have:=a8.o;omega
   have M:=qh O;obtain⟨E,hE⟩:∃E,a+q=E:=⟨_,rfl⟩;have b8:(I:Int)-1=(E:Int):=by have:=U.out;have:=HM.o;omega
   have T:=qh hE;have b7:(E:Int)< (n:Int):=by have:=M.o;have:=HM.o;have:=G.o;omega
   clear hE O HP HQ
   rename World=>wm
   go_wp2
   go_loopw [13] (fun vk wr=>∃(r K:Nat),vk=.int .i64 (K:Int)/\Hid (K=a+r)/\r<=q/\PB wr g S (A++((V.take r++x::V.drop r)++C))/\Chg (fun b=>b=g) w wr) (fun vk _=>E-(intOf vk).toNat)
   case atStart=>exact⟨0,a,rfl,rfl,Nat.zero_le _,by simpa using L.o,a0.o⟩
   case round=>
    obtain⟨r,K,rfl,u,e6,D,h⟩:=hrel;have B:=qh D;have P:=qh h;clear D h;by_cases hlt2:r<q
    ·have b2:(K:Int)< (E:Int):=by have:=u.o;have:=T.o;omega
     obtain⟨y,W⟩:∃y,V[r]? =some y:=⟨_,List.getElem?_eq_getElem (by have:=M.o;omega)⟩;have HF:Hid (A++((V.take r++x::V.drop r)++C)=(A++V.take r)++x::y::(V.drop (r+1)++C)):=by
        show _=_;obtain⟨N,rfl⟩:=List.getElem?_eq_some_iff.1 W;rw[List.drop_eq_getElem_cons N];simp only[List.append_assoc,List.cons_append]
     have a7:Hid (A++((V.take (r+1)++x::V.drop (r+1))++C)=(A++V.take r)++y::x::(V.drop (r+1)++C)):=by
        show _=_;obtain⟨N,rfl⟩:=List.getElem?_eq_some_iff.1 W;rw[List.take_succ_eq_append_getElem N];simp only[List.append_assoc,List.cons_append,List.nil_append]
     have HL:Hid ((A++V.take r).length=K):=by show _=_;rw[List.length_append,List.length_take,HA.o,u.o,Nat.min_eq_left (by have:=M.o;omega)]
     have d:Hid (PB wr g S ((A++V.take r)++x::y::(V.drop (r+1)++C))):=by have e:=B.o;rw[HF.o]at e;exact e
     have l:Hid (((A++V.take r)++x::y::(V.drop (r+1)++C))[K]? =some x):=by
        show _=_;rw[<- HL.o,List.getElem?_append_right ql,Nat.sub_self];rfl
     have t:Hid (((A++V.take r)++x::y::(V.drop (r+1)++C))[K+1]? =some y):=by
        show _=_;rw[<- HL.o,List.getElem?_append_right (by omega),show (A++V.take r).length+1-(A++V.take r).length=1 by omega];rfl
     obtain⟨d1,d2⟩:=d.o.at l.o;obtain⟨d3,d4⟩:=d.o.at t.o;have z1:=d.o.free (K*2);have z2:=d.o.free (K*2+1);have z3:=d.o.free ((K+1)*2);have z4:=d.o.free ((K+1)*2+1);clear W B HF;obtain⟨x,xa,xn,xc⟩:=x;obtain⟨y,Y,yn,yc⟩:=y;simp only at d1 d2 d3 d4;have d9:(K:Int)+1< (n:Int):=by have:=u.o;have:=G.o;have:=M.o;have:=HM.o;omega
     go_wp2
     go_region
     all_goals
        go_wp2;go_roundw
        case rel=>exact⟨r+1,K+1,by go_num,by show _=_;have:=u.o;omega,by omega,by
         have e:=(d.o.swap K (K+1) x xa xn xc y Y yn yc (List.getElem?_eq_some_iff.1 l.o).1 (List.getElem?_eq_some_iff.1 t.o).1).drew;have e2:=swap2_at (A++V.take r) (V.drop (r+1)++C) (x,xa,xn,xc) (y,Y,yn,yc);rw[HL.o]at e2;rw[e2,<-a7.o]at e;exact e,P.o.then (Chg.swap _ _ _ _ _ _ _ _ _ _)⟩
        case measure=>have:=u.o;have:=T.o;simp[intOf];omega
    ·have b5:r=q:=by omega
     subst b5;have b2:¬(K:Int)< (E:Int):=by have:=u.o;have:=T.o;omega
     go_wp2;go_end0;exact⟨rfl,by rw[a1.o];exact B.o,P.o⟩
end ReMem
namespace ReMem
open Go Go.RowKit MatchMath SortMath
theorem symTwo_any (g S c n a m b:Nat) (A U C:List El) (y:El) (w:World) (hp:symPre g S n a m b A U [y] C w) (b4:2<=U.length):
  Calls Tryz.prog 237 #[.slice (some ⟨g,0,none⟩) n c,.int .i64 a,.int .i64 m,.int .i64 b,.func (.func 208) #[] #[]] w (BPost w g S (A++(Ao gtE U [y]++C))):=by
 obtain⟨hB,hn,a2,ha,hm,hb,hU, -,a4, -,hE⟩:=hp;simp only[List.length_singleton]at hb;have b6:b<=n:=by rw[<- hn,<-hb,<-hm,<-ha];simp;omega
 have HN:=qh hn;have HA:=qh ha;have V:=qh hm;have c9:=qh hb;have HB:=qh hB;have HE:=qh hE;have a9:=qh a4;have b9:(n:Int)<=1099511627776:=by omega
 have q1:(b:Int)<=(n:Int):=by omega
 have q2:(a:Int)< (m:Int):=by omega
 obtain⟨u,hu⟩:∃u,U.length=u:=⟨_,rfl⟩;have q3:(m:Int)-(a:Int)=(u:Int):=by omega
 have e8:((u:Int)==1)=false:=by simp;omega
 have q4:(b:Int)-(m:Int)=1:=by omega
 have q5:(m:Int)< (n:Int):=by omega
 have HU:=qh hu;clear hn hm hb hB a2 b6 hE a4 ha hU b4 hu;go_enter func237,ntmps237;go_wp2
 go_loopw [14,15] (fun vi vj wr=>∃(p q I J:Nat),vi=.int .i64 (I:Int)/\vj=.int .i64 (J:Int)/\Hid (I=a+p)/\Hid (J=a+q)/\p<=q/\q<=U.length/\Hid (p=0\/∃z,U[p-1]? =some z/\gtE z y=false)/\Hid (q=U.length\/∃z,U[q]? =some z/\gtE z y=true)/\PB wr g S (A++(U++([y]++C)))/\Chg (fun b=>b=g) w wr) (fun vi vj _=>(intOf vj).toNat-(intOf vi).toNat)
 case atStart=>exact⟨0,U.length,a,m,rfl,rfl,rfl,V.o.symm,Nat.zero_le _,ql,.inl rfl,.inl rfl,HB.o,Chg.of (Below.refl _ _)⟩
 case round=>
  obtain⟨p,q,I,J,rfl,rfl,E,O,e6,L,HP,HQ,D,i⟩:=hrel;have G:=qh D;have a0:=qh i;clear D i;have e5:(J:Int)<=(m:Int):=by have:=O.out;have:=V.o;omega
  by_cases hlt:p<q
  ·have b1:(I:Int)< (J:Int):=by have:=E.out;have:=O.out;omega
   obtain⟨e,he⟩:∃e,(p+q)/2=e:=⟨_,rfl⟩;obtain⟨K,hK⟩:∃K,a+e=K:=⟨_,rfl⟩;have d9:((I:Int)+(J:Int))/2=(K:Int):=by have:=E.out;have:=O.out;omega
   have P:=qh hK;have l:Hid (p<=e/\e<q):=⟨by omega,by omega⟩;have b3:(K:Int)< (n:Int):=by have:=O.out;omega
   obtain⟨x,R⟩:∃x,U[e]? =some x:=⟨_,List.getElem?_eq_getElem (by omega)⟩;have HX:=qh R;have t:Hid ((A++(U++([y]++C)))[K]? =some x):=by show _=_;have h1:=in_U A U [y] C e x R;rw[show A.length+e=K by have:=HA.o;omega]at h1;exact h1
   have B:Hid ((A++(U++([y]++C)))[m]? =some y):=by show _=_;have h1:=in_V A U [y] C 0 y rfl;rw[show A.length+U.length+0=m by have:=HA.o;have:=V.o;omega]at h1;exact h1
   obtain⟨d1,d2⟩:=G.o.at t.o;obtain⟨d3,d4⟩:=G.o.at B.o;have a5:Hid (0<=x.1/\x.1<=1048576):=HE.o x (List.mem_of_getElem? t.o);have a6:Hid (0<=y.1/\y.1<=1048576):=HE.o y (List.mem_of_getElem? B.o);clear he hK R;obtain⟨x,W,xn,Y⟩:=x;obtain⟨y,ya,yn,yc⟩:=y;simp only at d1 d2 d3 d4;go_wp2;refine Vx (by kernel_rfl) (by kernel_rfl) ?_;intro X F hN j hF;have e1:∀z,(F z).cell? ⟨g,K*2,none⟩=some (.int .i64 x):=fun z=>upc (j z) d1;have e2:∀z,(F z).cell? ⟨g,K*2+1,none⟩=some (.slice W xn Y):=fun z=>upc (j z) d2;have e3:∀z,(F z).cell? ⟨g,m*2,none⟩=some (.int .i64 y):=fun z=>upc (j z) d3;have e4:∀z,(F z).cell? ⟨g,m*2+1,none⟩=some (.slice ya yn yc):=fun z=>upc (j z) d4;have HC:=qh (fun z=>Um (y,ya,yn,yc) (x,W,xn,Y) (F z) (a6.o) (a5.o));simp only at HC;repeat go_big_quiet_step (first
    | (go_at_call 208
       (with_reducible refine (HC.o _).mono ?_);rintro e w1 ⟨rfl,b5⟩;exact⟨rfl,hF _ _ b5⟩))
   refine wpQuiet_nil ?_;rintro _ ⟨z,rfl⟩;have Q:=qh (G.o.stays (j z));have N:=qh (a0.o.then (Chg.of (j z)));clear e1 e2 e3 e4 j hF;generalize F z=wz at*;by_cases hxy:x-y<0
   ·have T:(!decide (x-y<0))=false:=by simp[hxy]
    go_wp2
    ·have hq:(!decide (x-y<0))=true:=by assumption
     rw[T]at hq;cases hq
    go_roundw
    case rel=>exact⟨p,e,I,K,rfl,by go_num,E,P.o.symm,l.o.1,by have:=l.o;omega,HP,.inr ⟨(x,W,xn,Y),HX.o,by simp[gtE];omega⟩,Q.o,N.o⟩
    case measure=>have:=l.o;have:=E.out;have:=O.out;have:=P.o;simp[intOf];omega
   ·have T:(!decide (x-y<0))=true:=by simp[hxy]
    go_wp2;rotate_left
    ·have hq:(!decide (x-y<0))=false:=by assumption
     rw[T]at hq;cases hq
    go_roundw
    case rel=>exact⟨e+1,q,K+1,J,by go_num,rfl,by show _=_;have:=P.o;omega,O,by have:=l.o;omega,L,.inr ⟨(x,W,xn,Y),HX.o,by simp[gtE];omega⟩,HQ,Q.o,N.o⟩
    case measure=>have:=l.o;have:=E.out;have:=O.out;have:=P.o;simp[intOf];omega
  ·have a3:q=p:=by omega
   subst a3;have a1:Hid (Ao gtE U [y]=U.take q++y::U.drop q):=Ug Dy a9.o (x:=y) L HP.out HQ.out;have a7:Hid (I=J):=by show _=_;rw[E.out,O.out]
   have b1:¬(I:Int)< (J:Int):=by have:=a7.o;omega
   have a8:=qh L;have e0:(I:Int)<=(m:Int):=by have:=E.out;have:=V.o;omega
   clear L HP HQ
   rename World=>wm
   go_wp2
   go_loopw [17] (fun vk wr=>∃(r K:Nat),vk=.int .i64 (K:Int)/\Hid (K=a+r)/\q<=r/\r<=U.length/\PB wr g S (A++(U.take r++y::(U.drop r++C)))/\Chg (fun b=>b=g) w wr) (fun vk _=>(intOf vk).toNat-I)
   case atStart=>exact⟨U.length,m,rfl,V.o.symm,a8.o,ql,by simpa using G.o,a0.o⟩
   case round=>
    obtain⟨r,K,rfl,P,e7,b8,D,i⟩:=hrel;have d:=qh D;have M:=qh i;clear D i;by_cases hlt2:q<r
    ·obtain⟨r,rfl⟩:∃r',r=r'+1:=⟨r-1,by omega⟩
     obtain⟨K,rfl⟩:∃K',K=K'+1:=⟨K-1,by have:=P.o;omega⟩;have h:Hid (K=a+r):=by show _=_;have:=P.o;omega
     have b2:(I:Int)< (K:Int)+1:=by have:=h.o;have:=E.out;omega
     obtain⟨x,R⟩:∃x,U[r]? =some x:=⟨_,List.getElem?_eq_getElem (by omega)⟩;have HX:=qh R;have t:Hid ((A++(U.take (r+1)++y::(U.drop (r+1)++C)))[K+1]? =some y):=by
        show _=_;have e:=st_at A U C y (r+1) b8;rw[HA.o,show a+(r+1)=K+1 by have:=h.o;omega]at e;exact e
     have B:Hid ((A++(U.take (r+1)++y::(U.drop (r+1)++C)))[K]? =some x):=by
        show _=_;have e:=st_prev A U C y x r R;rw[HA.o,<-h.o]at e;exact e
     have b0:Hid (((A++(U.take (r+1)++y::(U.drop (r+1)++C))).set (K+1) x).set K y=A++(U.take r++y::(U.drop r++C))):=by
        show _=_;have e:=st_swap A U C y x r R;rw[HA.o,<-h.o,show a+(r+1)=K+1 by have:=h.o;omega]at e;exact e
     obtain⟨d1,d2⟩:=d.o.at t.o;obtain⟨d3,d4⟩:=d.o.at B.o;have z1:=d.o.free ((K+1)*2);have z2:=d.o.free ((K+1)*2+1);have z3:=d.o.free (K*2);have z4:=d.o.free (K*2+1);have b3:(K:Int)+1< (n:Int):=by have:=h.o;have:=V.o;omega
     clear R;obtain⟨x,W,xn,Y⟩:=x;obtain⟨y,ya,yn,yc⟩:=y;simp only at d1 d2 d3 d4;go_wp2
     go_region
     all_goals
        go_wp2;go_roundw
        case rel=>exact⟨r,K,by go_num,h,by omega,by omega,by
         have e:=(d.o.swap (K+1) K y ya yn yc x W xn Y (List.getElem?_eq_some_iff.1 t.o).1 (List.getElem?_eq_some_iff.1 B.o).1).drew;rw[b0.o]at e;exact e,M.o.then (Chg.swap _ _ _ _ _ _ _ _ _ _)⟩
        case measure=>have:=h.o;have:=E.out;simp[intOf];omega
    ·have b7:r=q:=by omega
     subst b7;have b2:¬(I:Int)< (K:Int):=by have:=P.o;have:=E.out;omega
     go_wp2;go_end0;exact⟨rfl,by rw[a1.o];simpa using d.o,M.o⟩
end ReMem
namespace ReMem
open Go Go.RowKit MatchMath SortMath
theorem perm_mem {x:El} {A U1 U2 V1 V2 C:List El} (h:x∈A++(U1++(V1++(U2++(V2++C))))):x∈A++((U1++U2)++((V1++V2)++C)):=by
 simp only[List.mem_append]at h ⊢;rcases h with h | h | h | h | h | h <;> simp[h]
theorem perm_mem2 {x:El} {A U1 U2 V1 V2 C:List El} (h:x∈A++(Ao gtE U1 V1++(U2++(V2++C)))):x∈A++((U1++U2)++((V1++V2)++C)):=by
 simp only[List.mem_append]at h ⊢;rcases h with h | h | h | h | h
 · simp[h]
 · rcases Ge _ _ _ h with h | h <;> simp[h]
 · simp[h]
 · simp[h]
 · simp[h]
theorem up1 {A U1 U2 V1 V2 C:List El} (g S:Nat) (c:Prop) (b:¬c->U2= []\/V1= []):¬c->∀W,PB W g S (A++(U1++(U2++(V1++(V2++C)))))->PB W g S (A++(U1++(V1++(U2++(V2++C))))):=by
 intro h W a;rcases b h with rfl | rfl <;> simpa using a
theorem up2 {A U1 U2 V1 V2 C:List El} (g S:Nat) (d:Srt gtE V1) (c:Prop) (b:¬c->U1= []\/V1= []):¬c->∀W,PB W g S (A++(U1++(V1++(U2++(V2++C)))))->PB W g S (A++(Ao gtE U1 V1++(U2++(V2++C)))):=by
 intro h W a;rcases b h with rfl | rfl
 ·have e:Ao gtE [] V1=V1:=Zv Dy d
  rw[e];simpa using a
 · simpa [Ao] using a
theorem up3 {A U1 U2 V1 V2 C:List El} (g S:Nat) (d:Srt gtE V2) (c:Prop) (b:¬c->U2= []\/V2= []):¬c->∀W,PB W g S (A++(Ao gtE U1 V1++(U2++(V2++C))))->PB W g S (A++((Ao gtE U1 V1++Ao gtE U2 V2)++C)):=by
 intro h W a;rcases b h with rfl | rfl
 ·have e:Ao gtE [] V2=V2:=Zv Dy d
  rw[e];simpa using a
 · simpa [Ao] using a
theorem Qt:∀(N g S c n a m b:Nat) (A U V C:List El) (w:World),U.length+V.length<N->symPre g S n a m b A U V C w->
  Calls Tryz.prog 237 #[.slice (some ⟨g,0,none⟩) n c,.int .i64 a,.int .i64 m,.int .i64 b,.func (.func 208) #[] #[]] w (BPost w g S (A++(Ao gtE U V++C))):=by
 intro N
 induction N with
 | zero=>intro g S c n a m b A U V C w h;omega
 |succ N ih=>
  intro g S c n a m b A U V C w hN hp;by_cases hU1:U.length=1
  ·obtain⟨x,rfl⟩:=List.length_eq_one_iff.1 hU1
   exact symOne_any g S c n a m b A V C x w hp
  by_cases hV1:V.length=1
  ·obtain⟨y,rfl⟩:=List.length_eq_one_iff.1 hV1
   exact symTwo_any g S c n a m b A U C y w hp (by have:=hp.2.2.2.2.2.2.1;omega)
  obtain⟨hB,hn,b6,ha,hm,hb,hU,hV,j4,j5,hE⟩:=hp;have n6:b<=n:=by rw[<- hn,<-hb,<-hm,<-ha];simp;omega
  have n8:(m:Int)-(a:Int)=(U.length:Int):=by omega
  have n9:(b:Int)-(m:Int)=(V.length:Int):=by omega
  obtain⟨u,hu⟩:∃u,U.length=u:=⟨_,rfl⟩;obtain⟨v,hv⟩:∃v,V.length=v:=⟨_,rfl⟩;obtain⟨D,hD⟩:∃D,(u+v)/2=D:=⟨_,rfl⟩;obtain⟨d,b8⟩:∃d,a+D=d:=⟨_,rfl⟩;obtain⟨L,i5⟩:∃L,d+m=L:=⟨_,rfl⟩;have p4:((u:Int)==1)=false:=by simp;omega
  have p5:((v:Int)==1)=false:=by simp;omega
  have q5:((a:Int)+(b:Int))/2=(d:Int):=by omega
  have q6:(d:Int)+(m:Int)=(L:Int):=by omega
  have o4:(n:Int)<=1099511627776:=by omega
  have q1:(b:Int)<=(n:Int):=by omega
  have q2:(a:Int)< (m:Int):=by omega
  have q7:(m:Int)< (b:Int):=by omega
  obtain⟨lo,i4⟩:∃lo,D-v=lo:=⟨_,rfl⟩;obtain⟨hi,i2⟩:∃hi,min D u=hi:=⟨_,rfl⟩;have r:Hid (lo=D-v/\hi=min D u/\(u+v)/2=D/\2<=u/\2<=v):=⟨i4.symm,i2.symm,hD,by omega,by omega⟩;have g1:=qh ih;have m6:=qh hN;have HN:=qh hn;have Y:=qh b6;have HA:=qh ha;have HM:=qh hm;have f7:=qh hb;have HB:=qh hB;have HE:=qh hE;have g6:=qh j4;have g7:=qh j5;have HU:=qh hu;have HV:=qh hv;have a0:=qh b8;have g2:=qh i5;rw[hu]at n8;rw[hv]at n9;have M:Hid ((d<m->L-b=a+lo/\b<=L/\d=a+hi)/\(m<=d->a=a+lo/\m=a+hi)):=by
   refine⟨fun h=>⟨by omega,by omega,by omega⟩,fun h=>⟨by omega,by omega⟩⟩
  obtain⟨pp,o0⟩:∃pp,L-1=pp:=⟨_,rfl⟩;have q8:(L:Int)-1=(pp:Int):=by omega
  have m7:Hid (pp+1=L):=by show _=_;omega
  have e9:lo<=hi:=by omega
  have n4:∃s0 t0,(d<m->L-b=s0/\b<=L/\d=t0)/\(m<=d->a=s0/\m=t0)/\s0=a+lo/\t0=a+hi:=by
   by_cases h:d<m
   ·obtain⟨l,q,h3⟩:=M.o.1 h
    exact⟨_,_,fun _=>⟨l,q,h3⟩,fun h'=>absurd h (by omega),rfl,rfl⟩
   ·obtain⟨l,q⟩:=M.o.2 (by omega)
    exact⟨_,_,fun h'=>absurd h' h,fun _=>⟨l,q⟩,rfl,rfl⟩
  obtain⟨s0,t0,j0,j1,j2,j3⟩:=n4;have m9:=qh j2;have n2:=qh j3;have i3:(d<m/\(m:Int)>(d:Int)/\(L:Int)-(b:Int)=(s0:Int)/\d=t0)\/(¬d<m/\¬(m:Int)>(d:Int)/\a=s0/\m=t0):=by
   by_cases h:d<m
   ·obtain⟨l,q,h3⟩:=j0 h
    exact .inl ⟨h,by omega,by omega,h3⟩
   ·obtain⟨l,q⟩:=j1 (by omega)
    exact .inr ⟨h,by omega,l,q⟩
  clear j0 j1 j2 j3 M;clear ih hN hn b6 ha hm hb hB hE j4 j5 hu hv hD b8 i5 hU1 hV1 hU hV i4 i2 n6 o0;have o3:hi<=u:=by have:=r.o;omega
  have o2:hi<=D:=by have:=r.o;omega
  rcases i3 with ⟨-,b0,k1,f0⟩ | ⟨-,b0,g9,f0⟩;all_goals
   have m5:=qh f0;clear f0;try (have j9:=qh g9)
   try clear g9
   go_enter func237,ntmps237;go_wp2
   go_loopw [20,21] (fun vi vj wr=>∃(i t I T:Nat),vi=.int .i64 (I:Int)/\vj=.int .i64 (T:Int)/\Hid (I=a+i)/\Hid (T=a+t)/\i<=t/\lo<=i/\t<=hi/\Hid (i=0\/D-i=V.length\/∃x y,U[i-1]? =some x/\V[D-i]? =some y/\gtE x y=false)/\Hid (t=U.length\/D-t=0\/∃x y,U[t]? =some x/\V[D-t-1]? =some y/\gtE x y=true)/\PB wr g S (A++(U++(V++C)))/\Chg (fun b=>b=g) w wr) (fun vi vj _=>(intOf vj).toNat-(intOf vi).toNat)
   case atStart=>exact⟨lo,hi,s0,t0,by first | rfl | rw[j9.o],by rw[m5.o],m9.o,n2.o,e9,ql,ql,by
     show _\/_;have l:=r.o;have q:=HV.o;omega,by
     show _\/_;have l:=r.o;have q:=HU.o;omega,HB.o,Chg.of (Below.refl _ _)⟩
   case round=>
    obtain⟨i,t,I,T,rfl,rfl,HI,HT,p3,b7,d9,H1,H2,i9,b5⟩:=hrel;have a6:=qh i9;have O:=qh b5;clear i9 b5;have p2:(T:Int)<=(m:Int):=by have l:=HT.out;have q:=HM.o;have h3:=HU.o;omega
    have a5:Hid (D-i<=v):=by show _<=_;have:=r.o;omega
    by_cases hlt:i<t
    ·have b1:(I:Int)< (T:Int):=by have:=HI.out;have:=HT.out;omega
     obtain⟨e,he⟩:∃e,(i+t)/2=e:=⟨_,rfl⟩;obtain⟨K,hK⟩:∃K,a+e=K:=⟨_,rfl⟩;obtain⟨f,hf⟩:∃f,D-e-1=f:=⟨_,rfl⟩;obtain⟨Q,hQ⟩:∃Q,m+f=Q:=⟨_,rfl⟩;have o8:((I:Int)+(T:Int))/2=(K:Int):=by have:=HI.out;have:=HT.out;omega
     have p0:(pp:Int)-(K:Int)=(Q:Int):=by have l:=m7.o;have q:=g2.o;have h3:=a0.o;omega
     have HK:=qh hK;have HF:Hid (f=D-e-1/\e<D):=⟨hf.symm,by omega⟩;have J:Hid (i<=e/\e<t):=⟨by omega,by omega⟩;have o9:(K:Int)< (n:Int):=by have:=HT.out;omega
     have n7:f<v:=by have:=r.o;omega
     have p1:(Q:Int)< (n:Int):=by have l:=f7.o;have q:=HV.o;omega
     obtain⟨x,hx⟩:∃x,U[e]? =some x:=⟨_,List.getElem?_eq_getElem (by have:=HU.o;omega)⟩;obtain⟨y,hy⟩:∃y,V[f]? =some y:=⟨_,List.getElem?_eq_getElem (by have:=HV.o;omega)⟩;have HX:=qh hx;have HY:=qh hy;have f9:Hid ((A++(U++(V++C)))[K]? =some x):=by show _=_;have l:=in_U A U V C e x hx;rw[show A.length+e=K by have:=HA.o;omega]at l;exact l
     have g0:Hid ((A++(U++(V++C)))[Q]? =some y):=by show _=_;have l:=in_V A U V C f y hy;rw[show A.length+U.length+f=Q by have:=HA.o;have:=HM.o;omega]at l;exact l
     obtain⟨d1,d2⟩:=a6.o.at f9.o;obtain⟨d3,d4⟩:=a6.o.at g0.o;have m0:Hid (0<=x.1/\x.1<=1048576):=HE.o x (List.mem_of_getElem? f9.o);have m1:Hid (0<=y.1/\y.1<=1048576):=HE.o y (List.mem_of_getElem? g0.o);clear he hK hx hy hf hQ n7;obtain⟨x,xa,xn,xc⟩:=x;obtain⟨y,ya,yn,yc⟩:=y;simp only at d1 d2 d3 d4;go_wp2;refine Vx (by kernel_rfl) (by kernel_rfl) ?_;intro X F hN B hF;have e1:∀z,(F z).cell? ⟨g,K*2,none⟩=some (.int .i64 x):=fun z=>upc (B z) d1;have e2:∀z,(F z).cell? ⟨g,K*2+1,none⟩=some (.slice xa xn xc):=fun z=>upc (B z) d2;have e3:∀z,(F z).cell? ⟨g,Q*2,none⟩=some (.int .i64 y):=fun z=>upc (B z) d3;have e4:∀z,(F z).cell? ⟨g,Q*2+1,none⟩=some (.slice ya yn yc):=fun z=>upc (B z) d4;have HC:=qh (fun z=>Um (y,ya,yn,yc) (x,xa,xn,xc) (F z) (m1.o) (m0.o));simp only at HC;repeat go_big_quiet_step (first
      | (go_at_call 208
         (with_reducible refine (HC.o _).mono ?_);rintro e w1 ⟨rfl,n5⟩;exact⟨rfl,hF _ _ n5⟩))
     refine wpQuiet_nil ?_;rintro _ ⟨z,rfl⟩;have b2:=qh (a6.o.stays (B z));have a9:=qh (O.o.then (Chg.of (B z)));clear e1 e2 e3 e4 B hF;generalize F z=wz at*;by_cases hxy:x-y<0
     ·have e7:(!decide (x-y<0))=false:=by simp[hxy]
      go_wp2
      ·have hq:(!decide (x-y<0))=true:=by assumption
       rw[e7]at hq;cases hq
      go_roundw
      case rel=>exact⟨i,e,I,K,rfl,by go_num,HI,HK.o.symm,J.o.1,b7,by have:=J.o;omega,H1,.inr (.inr ⟨(x,xa,xn,xc),(y,ya,yn,yc),HX.o,by rw[<- HF.o.1];exact HY.o,by simp[gtE];omega⟩),b2.o,a9.o⟩
      case measure=>have:=J.o;have:=HI.out;have:=HT.out;have:=HK.o;simp[intOf];omega
     ·have e7:(!decide (x-y<0))=true:=by simp[hxy]
      go_wp2;rotate_left
      ·have hq:(!decide (x-y<0))=false:=by assumption
       rw[e7]at hq;cases hq
      go_roundw
      case rel=>exact⟨e+1,t,K+1,T,by go_num,rfl,by show _=_;have:=HK.o;omega,HT,by have:=J.o;omega,by have:=J.o;omega,d9,.inr (.inr ⟨(x,xa,xn,xc),(y,ya,yn,yc),HX.o,by have:=HF.o;rw[show D-(e+1)=f by omega];exact HY.o,by simp[gtE];omega⟩),H2,b2.o,a9.o⟩
      case measure=>have:=J.o;have:=HI.out;have:=HT.out;have:=HK.o;simp[intOf];omega
    ·have o1:t=i:=by omega
     subst o1;have m2:Hid (I=T):=by show _=_;rw[HI.out,HT.out]
     have b1:¬(I:Int)< (T:Int):=by have:=m2.o;omega
     obtain⟨j,hj⟩:∃j,D-t=j:=⟨_,rfl⟩;obtain⟨E,n3⟩:∃E,m+j=E:=⟨_,rfl⟩;have j6:t<=D:=by omega
     have a8:t<=u:=by omega
     have k2:(L:Int)-(I:Int)=(E:Int):=by have l:=g2.o;have q:=a0.o;have h3:=HI.out;omega
     have a1:=qh (sym_split Dy g6.o g7.o (i:=t) (j:=D-t) (by rw[HU.o];exact a8) (by rw[HV.o];exact a5.o) H1.out H2.out);rw[hj]at a1;obtain⟨U1,U2,rfl,a3⟩:=Qd U t (by rw[HU.o];exact a8);obtain⟨V1,V2,rfl,a4⟩:=Qd V j (by rw[HV.o,<-hj];exact a5.o);rw[List.take_left' a3,List.drop_left' a3,List.take_left' a4,List.drop_left' a4]at a1;have o6:=qh a3;have o7:=qh a4;have j7:U2.length=u-t:=by have:=HU.o;rw[List.length_append]at this;omega
     have j8:V2.length=v-j:=by have:=HV.o;rw[List.length_append]at this;omega
     have s1:=List.pairwise_append.1 g6.o;have s2:=List.pairwise_append.1 g7.o;have g3:Hid (PB wr g S (A++(U1++(U2++(V1++(V2++C)))))):=by show PB _ _ _ _;have e:=a6.o;simpa using e
     have G:(A++(U1++(U2++(V1++(V2++C))))).length=n:=by have e:=HN.o;simpa using e
     have e8:A.length=a/\U1.length=t/\V1.length=j/\U2.length=u-t/\V2.length=v-j:=⟨HA.o,a3,a4,j7,j8⟩;have a2:a+u=m/\m+v=b/\a+t=I/\a+D=d/\m+j=E/\t+j=D/\j<=v/\(u+v)/2=D/\2<=u/\2<=v/\u+v<=N:=by
      have l:=HM.o;have q:=f7.o;have h3:=HU.o;have h4:=HV.o;have h5:=HI.out;have h6:=r.o;have h7:=a5.o;have h8:=a0.o;have h9:=m6.o;refine⟨by omega,by omega,by omega,by omega,by omega,by omega,by omega,by omega,by omega,by omega,by omega⟩
     have g5:=qh (fun W (hb:PB W g S (A++(U1++(U2++(V1++(V2++C)))))) (h:t<u/\0<j)=>rotate_any g S c n I m E (A++U1) U2 V1 (V2++C) W (by simpa using hb) (by simpa using G) Y.o (by simp;omega) (by simp;omega) (by simp;omega) (by omega) (by omega));have b9:(A++(U1++(V1++(U2++(V2++C))))).length=n:=by rw[<- G];simp;omega
     have m3:=qh (fun W (hb:PB W g S (A++(U1++(V1++(U2++(V2++C)))))) (h:0<t/\0<j)=>g1.o g S c n a I d A U1 V1 (U2++(V2++C)) W (by omega) ⟨hb,b9,Y.o,by omega,by omega,by omega,by omega,by omega,s1.1,s2.1,fun x hx=>HE.o x (perm_mem hx)⟩);have c9:(A++(Ao gtE U1 V1++(U2++(V2++C)))).length=n:=by rw[<- G];simp[Hk];omega
     have m4:=qh (fun W (hb:PB W g S (A++(Ao gtE U1 V1++(U2++(V2++C))))) (h:t<u/\j<v)=>g1.o g S c n d E b (A++Ao gtE U1 V1) U2 V2 C W (by omega) ⟨by simpa using hb,by simpa using c9,Y.o,by simp[Hk];omega,by omega,by omega,by omega,by omega,s1.2.1,s2.2.1,fun x hx=>HE.o x (perm_mem2 (by simpa using hx))⟩);have g8:=qh (up1 (A:=A) (U1:=U1) (U2:=U2) (V1:=V1) (V2:=V2) (C:=C) g S (t<u/\0<j) (fun h=>by
      by_cases l:t<u
      · exact .inr (List.eq_nil_of_length_eq_zero (by omega))
      · exact .inl (List.eq_nil_of_length_eq_zero (by omega))))
     have b3:=qh (up2 (A:=A) (U1:=U1) (U2:=U2) (V1:=V1) (V2:=V2) (C:=C) g S s2.1 (0<t/\0<j) (fun h=>by
      by_cases l:0<t
      · exact .inr (List.eq_nil_of_length_eq_zero (by omega))
      · exact .inl (List.eq_nil_of_length_eq_zero (by omega))))
     have b4:=qh (up3 (A:=A) (U1:=U1) (U2:=U2) (V1:=V1) (V2:=V2) (C:=C) g S s2.2.1 (t<u/\j<v) (fun h=>by
      by_cases l:t<u
      · exact .inr (List.eq_nil_of_length_eq_zero (by omega))
      · exact .inl (List.eq_nil_of_length_eq_zero (by omega))))
     have p:=qh a2;clear s1 s2 G b9 c9 a3 a4 j7 j8 a2 e8;have o5:Hid (t<=D/\t<=u):=⟨j6,a8⟩;have HJ:=qh hj;clear hj n3 j6 a8 b7 d9;clear a5 H1 H2;have F1:Hid ((I:Int)< (m:Int)↔t<u):=by have:=p.o;exact⟨fun _=>by omega,fun _=>by omega⟩
     have F2:Hid ((m:Int)< (E:Int)↔0<j):=by have:=p.o;exact⟨fun _=>by omega,fun _=>by omega⟩
     have F3:Hid ((a:Int)< (I:Int)↔0<t):=by have:=p.o;exact⟨fun _=>by omega,fun _=>by omega⟩
     have F4:Hid ((I:Int)< (d:Int)↔0<j):=by have:=p.o;exact⟨fun _=>by omega,fun _=>by omega⟩
     have F5:Hid ((d:Int)< (E:Int)↔t<u):=by have:=p.o;exact⟨fun _=>by omega,fun _=>by omega⟩
     have F6:Hid ((E:Int)< (b:Int)↔j<v):=by have:=p.o;exact⟨fun _=>by omega,fun _=>by omega⟩
     by_cases cu:t<u <;> by_cases cj:0<j <;> by_cases ct:0<t <;> by_cases cv:j<v
     all_goals
      (first | have f1:=F1.o.2 cu | have f1:=mt F1.o.1 cu)
      (first | have f2:=F2.o.2 cj | have f2:=mt F2.o.1 cj)
      (first | have f3:=F3.o.2 ct | have f3:=mt F3.o.1 ct)
      (first | have f4:=F4.o.2 cj | have f4:=mt F4.o.1 cj)
      (first | have f5:=F5.o.2 cu | have f5:=mt F5.o.1 cu)
      (first | have f6:=F6.o.2 cv | have f6:=mt F6.o.1 cv)
      have R:=qh cu;have P:=qh cj;have e5:=qh ct;have e6:=qh cv;clear cu cj ct cv;try (have a7:=qh (g8.o (by have l:=R.o;have q:=P.o;omega) _ g3.o))
      go_wp2_with (first
       | ( go_at_call 245
           (with_reducible refine (g5.o _ g3.o ⟨R.o,P.o⟩).mono ?_);rintro e1 w1 ⟨rfl,i6,h0⟩;have a7:=qh (by have e:=i6;simpa using e:PB _ g S (A++(U1++(V1++(U2++(V2++C))))));have e0:=qh (O.o.then h0);clear i6 h0)
       | ( go_at_call 237
           (with_reducible refine (m3.o _ a7.o ⟨e5.o,P.o⟩).mono ?_);rintro e2 w2 ⟨rfl,i7,i0⟩;have g4:=qh i7;have f8:=qh ((by first | exact e0.o | exact O.o:Chg (fun b=>b=g) w _).then i0)
           clear i7 i0)
       | ( go_at_call 237
           (with_reducible refine (m4.o _ (by first | exact g4.o | exact b3.o (by have l:=e5.o;have q:=P.o;omega) _ a7.o) ⟨R.o,e6.o⟩).mono ?_)
           rintro e3 w3 ⟨rfl,i8,i1⟩;have m8:=qh (by have e:=i8;simpa using e:PB _ g S (A++((Ao gtE U1 V1++Ao gtE U2 V2)++C)));have k0:=qh ((by first | exact f8.o | exact e0.o | exact O.o:Chg (fun b=>b=g) w _).then i1)
           clear i8 i1))
      all_goals
       go_end0;refine⟨rfl,?_,by first | exact k0.o | exact f8.o | exact e0.o | exact O.o⟩
       rw[a1.o];first
          | exact m8.o
          | exact b4.o (by have l:=R.o;have q:=e6.o;omega) _ g4.o
          | exact b4.o (by have l:=R.o;have q:=e6.o;omega) _ (b3.o (by have l:=e5.o;have q:=P.o;omega) _ a7.o)
end ReMem
end Go.Proofs.YtjefcpjciogcjaaGreatDoor
