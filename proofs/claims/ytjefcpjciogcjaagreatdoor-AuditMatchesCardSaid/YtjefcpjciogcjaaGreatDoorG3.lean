/- Lemmas for the walk of the law, in 5 parts. No condition beyond what each states. -/
import Derived.Test.YtjefcpjciogcjaaGreatDoorG2
import Derived.Test.YtjefcpjciogcjaaGreatDoorG1
import Derived.Laws.Pointers
import Derived.WalkSpells
import Derived.Test.YtjefcpjciogcjaaGreatDoorG0
namespace Go.Proofs.YtjefcpjciogcjaaGreatDoor
set_option maxRecDepth 100000
set_option linter.unusedVariables false
set_option maxHeartbeats 8000000
open Tryz
namespace ReMem
open Go Go.RowKit MatchMath Strs
theorem Ix:∀(a b:List Re) (n:Nat),Bd (a++b) n=(Bd a n&&Bd b (n+Ai 6 a))
 | [],b,n=>by rw[List.nil_append,Bd,Bool.true_and,Ai,Nat.add_zero]
 | x::r,b,n=>by rw[List.cons_append,Bd,Bd,Ix r b,Ai,Bool.and_assoc,Nat.add_assoc]
theorem Ff {l:List Re} {q n:Nat} {t:Re} (h:l[q]? =some t):Bd (l.take (q+1)) n=(Bd (l.take q) n&&ranged t (n+Ai 6 (l.take q))):=by
 rw[Bt h,Ix,Bd,Bd,Bool.and_true]
theorem Kc {l:List Re} {q n:Nat} {t:Re} (h:l[q]? =some t) (b:ranged t (n+Ai 6 (l.take q))=false):Bd l n=false:=by
 have a:=Ix (l.take (q+1)) (l.drop (q+1)) n;rw[List.take_append_drop,Ff h,b,Bool.and_false,Bool.false_and]at a;exact a
theorem wrap_ne {g:Int} {k:Nat} (a: -9223372036854775808<=g) (b:g<=9223372036854775807) (c:k<=4096) (h:g≠(k:Int)+1):(wrap64 (g-1)==(k:Int))=false:=by
 rw[beq_eq_false_iff_ne];intro e;unfold wrap64 at e;omega
theorem Yl:∀(n:Nat) (e:Re) (v:Value) (k:Nat) (w:World),size e<n->size e+k<=4096->Ag e->Lies w v e.args->
  Calls Tryz.prog 63 #[Ac v e,.int .i64 k] w fun r w'=>(∃z:Int,r=.returned (.tuple #[.int .i64 z,.bool (ranged e k)])/\(ranged e k=true->z=((k+Af 6 e:Nat):Int)))/\qw w w':=by
 intro n
 induction n with
 | zero=>intro e v k w hn;omega
 |succ n ih=>
  intro e v k w hn hs Y hl;obtain⟨o,p,l,h,g,args⟩:=e;obtain⟨a,c,vs,rfl,⟨a9,a6⟩,ho⟩:=hl.opened;have IH:=qh (fun t v k W (A:t∈args) (hk:size t+k<=4096)=>ih t v k W (Nat.lt_of_lt_of_le (Bo (e:=.mk o p l h g args) A) (Nat.le_of_lt_succ hn)) hk);clear ih hn hl;have b3:1+sizes args+k<=4096:=by rw[size]at hs;exact hs
  have O:Hid (Af 6 (.mk o p l h g args)=(if o=6 then 1 else 0)+Ai 6 args):=by show _=_;rw[Af]
  have L:Hid (ranged (.mk o p l h g args) k=((if o=5 then counted l h else true)&&(if o=6 then decide (g=(k:Int)+1)&&Bd args (k+1) else Bd args k))):=by show _=_;rw[ranged]
  have S:=qh (fun W=>Wx (.slice a args.length c) (.mk o p l h g args) W);unfold Ac at S ⊢;simp only[Re.op,Re.set,Re.lo,Re.hi,Re.group,Re.args]at*;have b2:args.length<=9223372036854775807:=Nat.le_trans a9 a6;have a7: -9223372036854775808<=g:=Y.2.2.2.1;have a8:g<=9223372036854775807:=Y.2.2.2.2;have HO:=qh ho;clear ho hs Y;generalize ranged (.mk o p l h g args) k=R at*;generalize Af 6 (.mk o p l h g args)=CN at*;generalize Sets.Aa p 0=x0 at*;generalize Sets.Aa p 1=x1 at*;generalize Sets.Aa p 2=x2 at*;generalize Sets.Aa p 3=x3 at*;have HB:=qh (qb w (.cells #[.int .i64 o,.int .u64 x0,.int .u64 x1,.int .u64 x2,.int .u64 x3,.int .i64 l,.int .i64 h,.int .i64 g,.slice a args.length c] 28));have X:=qh (Box9.new w o x0 x1 x2 x3 l h g (.slice a args.length c) 28);by_cases h5:o=5
  ·subst h5
   rw[if_pos rfl,if_neg (by decide)]at L;rw[if_neg (by decide)]at O;cases B:counted l h with
   |false=>
    rw[B]at S L;go_enter func63,ntmps63
    go_wp2_with (go_at_call 87
                 (with_reducible refine (S.o _).mono ?_);rintro e w2 ⟨rfl,a4⟩;have a5:=qh (Ab HB.o a4))
    go_ret2;have y:R=false:=L.o;exact⟨⟨_,by rw[y];rfl,fun B=>by rw[y]at B;cases B⟩,a5.o⟩
   |true=>
    rw[B,Bool.true_and]at L;rw[B]at S;go_enter func63,ntmps63
    go_wp2_with (go_at_call 87
                 (with_reducible refine (S.o _).mono ?_);rintro e w2 ⟨rfl,a4⟩;have a5:=qh (Ab HB.o a4);have Q:=qh (X.o.stays a4);have d0:=Q.o.d0;have d8:=Q.o.d8)
    clear d0 d8
    go_loopw [1,6] (fun m i wr=>∃q:Nat,q<=args.length/\i=.int .i64 q/\m=.int .i64 (k+Ai 6 (args.take q):Nat)/\qw w wr/\Box9 wr w.heap.size 5 x0 x1 x2 x3 l h g (.slice a args.length c)/\Bd (args.take q) (k)=true) (fun _ i _=>args.length-(intOf i).toNat)
    case atStart=>exact⟨0,Nat.zero_le _,rfl,rfl,a5.o,Q.o,rfl⟩
    case round=>
     obtain⟨q,hq,rfl,rfl,N,E,j⟩:=hrel;have HA:=qh j;have P:=qh E;have x:=qh N;obtain⟨d0,d1,d2,d3,d4,d5,d6,d7,d8,d9⟩:=E;clear j;by_cases hlt:q<args.length
     ·obtain⟨t,v,b,off,A,hv,rfl,⟨k0,k1,k2,k3,k4,k5,k6,k7,k8⟩,J,I,hm⟩:=(HO.o.stays N).at hlt
      have a0:(q:Int)< (args.length:Int):=by omega
      have a1:=Ch A;have a2:=Cz args (q+1);have a3:=By 6 (args.take q);have D:=qh (IH.o t v (k+Ai 6 (args.take q)) wr hm (by omega) I J);have V:=qh A;have U:Hid (k+Ai 6 (args.take q)+Af 6 t=k+Ai 6 (args.take (q+1))):=by show _=_;rw[Ec (k:=6) A,Nat.add_assoc]
      have T:=qh (Ff (n:=k) A);unfold Ac at D;clear A hv I J hm N a1 a2 a3;generalize hM:k+Ai 6 (args.take q)=M at*;cases hty:ranged t M with
      |true=>
       rw[hty]at D
       go_wp2_with (go_at_call 63
                    (with_reducible refine D.o.mono ?_);rintro e w3 ⟨⟨z,rfl,hz⟩,d⟩;obtain rfl:=hz rfl;have u:=qh (Ab x.o d);have C:=qh (P.o.stays d))
       go_roundw
       case rel=>exact⟨q+1,by omega,by go_num,by rw[<- U.o,Int.natCast_add],u.o,C.o,by rw[T.o,HA.o,hty];rfl⟩
       case measure=>simp[intOf];omega
      |false=>
       rw[hty]at D
       go_wp2_with (go_at_call 63
                    (with_reducible refine D.o.mono ?_);rintro e w3 ⟨⟨z,rfl, -⟩,d⟩;have u:=qh (Ab x.o d))
       go_ret2;have y:R=false:=by rw[L.o,Kc (n:=k) V.o (by rw[hM];exact hty)]
       exact⟨⟨_,by rw[y];rfl,fun B=>by rw[y]at B;cases B⟩,u.o⟩
     ·have a0:¬(q:Int)< (args.length:Int):=by omega
      have G:q=args.length:=by omega
      have HQ:=qh G;clear N G;go_wp2;go_ret2;have K:=HQ.o;have hA:=HA.o;rw[K,List.take_length]at hA;have y:R=true:=by rw[L.o,hA]
      exact⟨⟨_,by rw[y];rfl,fun _=>by rw[K,List.take_length,O.o];omega⟩,x.o⟩
  ·by_cases h6:o=6
   ·subst h6
    rw[if_neg (by decide),if_pos rfl,Bool.true_and]at L;rw[if_pos rfl]at O;by_cases hg:g=(k:Int)+1
    ·subst hg
     rw[decide_eq_true rfl,Bool.true_and]at L;go_enter func63,ntmps63;go_wp2
     go_loopw [1,6] (fun m i wr=>∃q:Nat,q<=args.length/\i=.int .i64 q/\m=.int .i64 (k+1+Ai 6 (args.take q):Nat)/\qw w wr/\Box9 wr w.heap.size 6 x0 x1 x2 x3 l h ((k:Int)+1) (.slice a args.length c)/\Bd (args.take q) (k+1)=true) (fun _ i _=>args.length-(intOf i).toNat)
     case atStart=>exact⟨0,Nat.zero_le _,rfl,rfl,HB.o,X.o,rfl⟩
     case round=>
      obtain⟨q,hq,rfl,rfl,N,E,j⟩:=hrel;have HA:=qh j;have P:=qh E;have x:=qh N;obtain⟨d0,d1,d2,d3,d4,d5,d6,d7,d8,d9⟩:=E;clear j;by_cases hlt:q<args.length
      ·obtain⟨t,v,b,off,A,hv,rfl,⟨k0,k1,k2,k3,k4,k5,k6,k7,k8⟩,J,I,hm⟩:=(HO.o.stays N).at hlt
       have a0:(q:Int)< (args.length:Int):=by omega
       have a1:=Ch A;have a2:=Cz args (q+1);have a3:=By 6 (args.take q);have D:=qh (IH.o t v (k+1+Ai 6 (args.take q)) wr hm (by omega) I J);have V:=qh A;have U:Hid (k+1+Ai 6 (args.take q)+Af 6 t=k+1+Ai 6 (args.take (q+1))):=by show _=_;rw[Ec (k:=6) A,Nat.add_assoc]
       have T:=qh (Ff (n:=k+1) A);unfold Ac at D;clear A hv I J hm N a1 a2 a3;generalize hM:k+1+Ai 6 (args.take q)=M at*;cases hty:ranged t M with
       |true=>
        rw[hty]at D
        go_wp2_with (go_at_call 63
                     (with_reducible refine D.o.mono ?_);rintro e w3 ⟨⟨z,rfl,hz⟩,d⟩;obtain rfl:=hz rfl;have u:=qh (Ab x.o d);have C:=qh (P.o.stays d))
        go_roundw
        case rel=>exact⟨q+1,by omega,by go_num,by rw[<- U.o,Int.natCast_add],u.o,C.o,by rw[T.o,HA.o,hty];rfl⟩
        case measure=>simp[intOf];omega
       |false=>
        rw[hty]at D
        go_wp2_with (go_at_call 63
                     (with_reducible refine D.o.mono ?_);rintro e w3 ⟨⟨z,rfl, -⟩,d⟩;have u:=qh (Ab x.o d))
        go_ret2;have y:R=false:=by rw[L.o,Kc (n:=k+1) V.o (by rw[hM];exact hty)]
        exact⟨⟨_,by rw[y];rfl,fun B=>by rw[y]at B;cases B⟩,u.o⟩
      ·have a0:¬(q:Int)< (args.length:Int):=by omega
       have G:q=args.length:=by omega
       have HQ:=qh G;clear N G;go_wp2;go_ret2;have K:=HQ.o;have hA:=HA.o;rw[K,List.take_length]at hA;have y:R=true:=by rw[L.o,hA]
       exact⟨⟨_,by rw[y];rfl,fun _=>by rw[K,List.take_length,O.o];omega⟩,x.o⟩
    ·have hw:=wrap_ne a7 a8 (by omega:k<=4096) hg
     rw[decide_eq_false hg,Bool.false_and]at L;clear hg;go_enter func63,ntmps63;go_wp2;go_ret2;have y:R=false:=L.o;exact⟨⟨_,by rw[y];rfl,fun B=>by rw[y]at B;cases B⟩,HB.o⟩
   ·rw[if_neg h5,if_neg h6,Bool.true_and]at L
    rw[if_neg h6]at O;have b0:(o==5)=false:=by simp[h5]
    have b1:(o==6)=false:=by simp[h6]
    go_enter func63,ntmps63;go_wp2
    go_loopw [1,6] (fun m i wr=>∃q:Nat,q<=args.length/\i=.int .i64 q/\m=.int .i64 (k+Ai 6 (args.take q):Nat)/\qw w wr/\Box9 wr w.heap.size o x0 x1 x2 x3 l h g (.slice a args.length c)/\Bd (args.take q) (k)=true) (fun _ i _=>args.length-(intOf i).toNat)
    case atStart=>exact⟨0,Nat.zero_le _,rfl,rfl,HB.o,X.o,rfl⟩
    case round=>
     obtain⟨q,hq,rfl,rfl,N,E,j⟩:=hrel;have HA:=qh j;have P:=qh E;have x:=qh N;obtain⟨d0,d1,d2,d3,d4,d5,d6,d7,d8,d9⟩:=E;clear j;by_cases hlt:q<args.length
     ·obtain⟨t,v,b,off,A,hv,rfl,⟨k0,k1,k2,k3,k4,k5,k6,k7,k8⟩,J,I,hm⟩:=(HO.o.stays N).at hlt
      have a0:(q:Int)< (args.length:Int):=by omega
      have a1:=Ch A;have a2:=Cz args (q+1);have a3:=By 6 (args.take q);have D:=qh (IH.o t v (k+Ai 6 (args.take q)) wr hm (by omega) I J);have V:=qh A;have U:Hid (k+Ai 6 (args.take q)+Af 6 t=k+Ai 6 (args.take (q+1))):=by show _=_;rw[Ec (k:=6) A,Nat.add_assoc]
      have T:=qh (Ff (n:=k) A);unfold Ac at D;clear A hv I J hm N a1 a2 a3;generalize hM:k+Ai 6 (args.take q)=M at*;cases hty:ranged t M with
      |true=>
       rw[hty]at D
       go_wp2_with (go_at_call 63
                    (with_reducible refine D.o.mono ?_);rintro e w3 ⟨⟨z,rfl,hz⟩,d⟩;obtain rfl:=hz rfl;have u:=qh (Ab x.o d);have C:=qh (P.o.stays d))
       go_roundw
       case rel=>exact⟨q+1,by omega,by go_num,by rw[<- U.o,Int.natCast_add],u.o,C.o,by rw[T.o,HA.o,hty];rfl⟩
       case measure=>simp[intOf];omega
      |false=>
       rw[hty]at D
       go_wp2_with (go_at_call 63
                    (with_reducible refine D.o.mono ?_);rintro e w3 ⟨⟨z,rfl, -⟩,d⟩;have u:=qh (Ab x.o d))
       go_ret2;have y:R=false:=by rw[L.o,Kc (n:=k) V.o (by rw[hM];exact hty)]
       exact⟨⟨_,by rw[y];rfl,fun B=>by rw[y]at B;cases B⟩,u.o⟩
     ·have a0:¬(q:Int)< (args.length:Int):=by omega
      have G:q=args.length:=by omega
      have HQ:=qh G;clear N G;go_wp2;go_ret2;have K:=HQ.o;have hA:=HA.o;rw[K,List.take_length]at hA;have y:R=true:=by rw[L.o,hA]
      exact⟨⟨_,by rw[y];rfl,fun _=>by rw[K,List.take_length,O.o];omega⟩,x.o⟩
end ReMem
namespace ReMem
open Go Go.RowKit MatchMath Strs Own
theorem not_in {l:List Int} {g:Int} (h:∀(j:Nat) z,j<l.length->l[j]? =some z->z≠g):l.contains g=false:=by
 rw[Bool.eq_false_iff];intro b;have c:=List.contains_iff_mem.1 b;obtain⟨j,a,e⟩:=List.mem_iff_getElem.1 c;exact h j g a (by rw[List.getElem?_eq_getElem a,e]) rfl
theorem Ln (d:List Int) (g:Int) (C:Value) (base:Nat) (w:World) (hr:Row w base 3 1 C d.length (ints d)) (M:d.length<=5000):
  Calls Tryz.prog 88 #[C,.int .i64 g] w fun r w'=>r=.returned (.bool (d.contains g))/\qw w w':=by
 obtain⟨a,c,rfl⟩:=hr.form;have HR:=qh hr;clear hr;obtain⟨R,p⟩:∃R,d.contains g=R:=⟨_,rfl⟩;rw[p];have m:=qh p;clear p;go_enter func88,ntmps88;go_wp2
 go_loopw [5] (fun i wr=>∃q:Nat,q<=d.length/\i=.int .i64 q/\wr=w/\∀(j:Nat) z,j<q->d[j]? =some z->z≠g) (fun i _=>d.length-(intOf i).toNat)
 case atStart=>exact⟨0,Nat.zero_le _,rfl,rfl,fun j z u=>absurd u (Nat.not_lt_zero _)⟩
 case round=>
  obtain⟨q,N,rfl,rfl,h⟩:=hrel;have A:=qh h;clear h;by_cases hlt:q<d.length
  ·obtain⟨b,D,J,L,E,I,e, -⟩:=HR.o.here (by omega)
   injection J with e1 _ e2;subst e1 e2;have y:d[q]? =some d[q]:=List.getElem?_eq_getElem hlt;have t:=e q _ (ints_at y);have B:=qh y;have x:(q:Int)< (d.length:Int):=by omega
   generalize d[q]=z at*;clear e y;by_cases hg:z=g
   ·subst hg
    have l:Hid (R=true):=by show _=_;rw[<- m.o];exact List.contains_iff_mem.2 (List.mem_of_getElem? B.o)
    go_wp2;go_ret;exact⟨by rw[l.o];rfl,Below.refl _ _⟩
   ·have G:(z==g)=false:=by simp[hg]
    go_wp2;go_roundw
    case rel=>exact⟨q+1,by omega,by go_num,True.intro,fun j K u n=>by
     by_cases hjq:j=q
     ·subst hjq
      rw[B.o]at n;cases n
      exact hg
     · exact A.o j K (by omega) n⟩
    case measure=>simp[intOf];omega
  ·have x:¬(q:Int)< (d.length:Int):=by omega
   have l:Hid (R=false):=by show _=_;rw[<- m.o];exact not_in fun j z u n=>A.o j z (by omega) n
   go_wp2;go_ret;exact⟨by rw[l.o];rfl,Below.refl _ _⟩
end ReMem
namespace ReMem
open Go Go.RowKit MatchMath Strs Own
theorem Mh:∀(a b:List Re) (c:List Int),Ay (a++b) c=Ay b (Ay a c)
 | [],b,c=>by rw[List.nil_append,Ay]
 | x::r,b,c=>by rw[List.cons_append,Ay,Ay,Mh r b]
theorem Kz {l:List Re} {q:Nat} {t:Re} (a:List Int) (h:l[q]? =some t):Ay (l.take (q+1)) a=closes t (Ay (l.take q) a):=by
 rw[Bt h,Mh,Ay,Ay]
theorem Ka:∀(a b:List Re) (c:List Int),Dj (a++b) c=(Dj a c&&Dj b (Ay a c))
 | [],b,c=>by rw[List.nil_append,Dj,Bool.true_and,Ay]
 | x::r,b,c=>by rw[List.cons_append,Dj,Dj,Ka r b,Ay,Bool.and_assoc]
theorem Jo {l:List Re} {q:Nat} {t:Re} (a:List Int) (h:l[q]? =some t):Dj (l.take (q+1)) a=(Dj (l.take q) a&&named t (Ay (l.take q) a)):=by
 rw[Bt h,Ka,Dj,Dj,Bool.and_true]
theorem Lj {l:List Re} {q:Nat} {t:Re} (a:List Int) (h:l[q]? =some t) (c:named t (Ay (l.take q) a)=false):Dj l a=false:=by
 have b:=Ka (l.take (q+1)) (l.drop (q+1)) a;rw[List.take_append_drop,Jo a h,c,Bool.and_false,Bool.false_and]at b;exact b
mutual
theorem closes_len:∀(e:Re) (cl:List Int),(closes e cl).length=cl.length+Af 6 e
 | .mk o s l h g args,cl=>by
   rw[closes,Af];split
   ·rw[List.length_append,Dl args cl]
    simp only[List.length_singleton];omega
   ·rw[Dl args cl]
    omega
theorem Dl:∀(l:List Re) (cl:List Int),(Ay l cl).length=cl.length+Ai 6 l
 | [],cl=>by rw[Ay,Ai,Nat.add_zero]
 | x::r,cl=>by rw[Ay,Dl r,closes_len x,Ai,Nat.add_assoc]
end
def Near (b:Nat) (rv rv':Value):Prop:=rv'.ownBlock=rv.ownBlock\/∀k,rv'.ownBlock=some k->b<=k
theorem Near.trans {b c:Nat} {u v x:Value} (h:Near b u v) (g:Near c v x) (d:b<=c):Near b u x:=by
 rcases g with g | g
 ·rcases h with h | h
  · exact .inl (g.trans h)
  · exact .inr fun k a=>h k (by rw[<- g];exact a)
 · exact .inr fun k a=>Nat.le_trans d (g k a)
theorem Near.refl (b:Nat) (v:Value):Near b v v:=.inl rfl
theorem Near.mono {b c:Nat} {u v:Value} (h:Near c u v) (a:b<=c):Near b u v:=h.imp id fun h k hk=>Nat.le_trans a (h k hk)
theorem Near.sub {b:Nat} {u v:Value} (h:Near b u v) {k:Nat} (c:k<b) (a:some k=v.ownBlock):some k=u.ownBlock:=by
 rcases h with h | h
 · rw[<- h];exact a
 ·have:=h k a.symm
  omega
theorem int_info:(Tryz.prog.info? 3).map (fun i=>(i.zero,i.size,i.bytes))=some (some (.int .i64 0),1,8):=by kernel_rfl
theorem refNamed_any (W0:World):∀(n:Nat) (e:Re) (v:Value) (d:List Int) (y:Value) (w:World),size e<n->size e+d.length<=4096->Ag e->Lies W0 v e.args->qw W0 w->Row w W0.heap.size 3 1 y d.length (ints d)->
  Calls Tryz.prog 64 #[Ac v e,y] w fun r w'=>(∃rv',r=.returned (.tuple #[rv',.bool (named e d)])/\(named e d=true->Row w' W0.heap.size 3 1 rv' (closes e d).length (ints (closes e d))/\Near w.heap.size y rv'))/\Chg (fun k=>some k=y.ownBlock) w w':=by
 intro n
 induction n with
 | zero=>intro e v d y w hn;omega
 |succ n ih=>
  intro e v d y w hn hs f1 hl f0 x;obtain⟨o,p,l,h,g,args⟩:=e;obtain⟨a,c,vs,rfl,⟨f5,f4⟩,ho⟩:=hl.opened;have IH:=qh (fun t v d y W (I:t∈args)=>ih t v d y W (Nat.lt_of_lt_of_le (Bo (e:=.mk o p l h g args) I) (Nat.le_of_lt_succ hn)));clear ih hn hl;have g0:1+sizes args+d.length<=4096:=by rw[size]at hs;exact hs
  have HT:Hid (named (.mk o p l h g args) d=((if o=9 then d.contains g else true)&&Dj args d)):=by show _=_;rw[named]
  have a8:Hid (closes (.mk o p l h g args) d=if o=6 then Ay args d++ [g] else Ay args d):=by show _=_;rw[closes]
  unfold Ac;simp only[Re.op,Re.set,Re.lo,Re.hi,Re.group,Re.args]at*;have f9:args.length<=9223372036854775807:=Nat.le_trans f5 f4;have HO:=qh ho;have e6:=qh f0;have b2:=qh x;have L:W0.heap.size<=w.heap.size:=f0.size;clear ho hs f1 f0 x;generalize named (.mk o p l h g args) d=R at*;generalize closes (.mk o p l h g args) d=CL at*;generalize Sets.Aa p 0=x0 at*;generalize Sets.Aa p 1=x1 at*;generalize Sets.Aa p 2=x2 at*;generalize Sets.Aa p 3=x3 at*;have HB:Hid (Chg (fun k=>some k=y.ownBlock) w (w.alloc (.cells #[.int .i64 o,.int .u64 x0,.int .u64 x1,.int .u64 x2,.int .u64 x3,.int .i64 l,.int .i64 h,.int .i64 g,.slice a args.length c] 28))):=Chg.alloc _ _ _;have a7:=qh (Box9.new w o x0 x1 x2 x3 l h g (.slice a args.length c) 28);have J:=qh (b2.o.alloc (.cells #[.int .i64 o,.int .u64 x0,.int .u64 x1,.int .u64 x2,.int .u64 x3,.int .i64 l,.int .i64 h,.int .i64 g,.slice a args.length c] 28));have e2:Hid (w.heap.size+1=(w.alloc (.cells #[.int .i64 o,.int .u64 x0,.int .u64 x1,.int .u64 x2,.int .u64 x3,.int .i64 l,.int .i64 h,.int .i64 g,.slice a args.length c] 28)).heap.size):=by show _=_;simp
  have e8:Hid (∀k,w.heap.size<=k->¬some k=y.ownBlock):=fun k G e=>by have:=(b2.o.lt k e.symm).2;omega
  by_cases h9:o=9
  ·subst h9
   rw[if_pos rfl]at HT;rw[if_neg (by decide)]at a8;cases hc:d.contains g with
   |false=>
    rw[hc,Bool.false_and]at HT;go_enter func64,ntmps64
    go_wp2_with (go_at_call 88
                 (with_reducible refine (Ln d g y W0.heap.size _ J.o (by omega)).mono ?_);rw[hc];rintro e w2 ⟨rfl,K⟩;have a6:=qh (a7.o.stays K);have e3:=qh (J.o.below K);have e5:Hid (Chg (fun k=>some k=y.ownBlock) w w2):=HB.o.trans (Chg.of (C:=fun _=>False) K) (fun k _ G=>G.elim);have f3:w.heap.size+1<=w2.heap.size:=(by have:=K.size;have:=e2.o;omega);have d0:=a6.o.d0)
    go_ret2;have T:R=false:=HT.o;exact⟨⟨_,by rw[T];rfl,fun hc=>by rw[T]at hc;cases hc⟩,e5.o⟩
   |true=>
    rw[hc,Bool.true_and]at HT;go_enter func64,ntmps64
    go_wp2_with (go_at_call 88
                 (with_reducible refine (Ln d g y W0.heap.size _ J.o (by omega)).mono ?_);rw[hc];rintro e w2 ⟨rfl,K⟩;have a6:=qh (a7.o.stays K);have e3:=qh (J.o.below K);have e5:Hid (Chg (fun k=>some k=y.ownBlock) w w2):=HB.o.trans (Chg.of (C:=fun _=>False) K) (fun k _ G=>G.elim);have f3:w.heap.size+1<=w2.heap.size:=(by have:=K.size;have:=e2.o;omega);have d0:=a6.o.d0)
    clear d0
    go_loopw [1,6] (fun m i wr=>∃q:Nat,∃rv':Value,q<=args.length/\i=.int .i64 q/\rv'=m/\Chg (fun k=>some k=y.ownBlock) w wr/\w.heap.size+1<=wr.heap.size/\Box9 wr w.heap.size 9 x0 x1 x2 x3 l h g (.slice a args.length c)/\Dj (args.take q) d=true/\Row wr W0.heap.size 3 1 rv' (Ay (args.take q) d).length (ints (Ay (args.take q) d))/\Near (w.heap.size+1) y rv') (fun _ i _=>args.length-(intOf i).toNat)
    case atStart=>exact⟨0,y,Nat.zero_le _,rfl,rfl,e5.o,f3,a6.o,rfl,e3.o,Near.refl _ _⟩
    case round=>
     obtain⟨q,rv',hq,rfl,rfl,hb,N,V,A,x,u⟩:=hrel;have HA:=qh A;have a9:=qh V;have D:=qh hb;have z:=qh x;have O:=qh u;have P:=qh (e6.o.trans (hb.below (B:=W0.heap.size) L (fun k G e=>by have:=(b2.o.lt k e.symm).1;omega)));obtain⟨d0,d1,d2,d3,d4,d5,d6,d7,d8,d9⟩:=V;clear A x u hb;by_cases hlt:q<args.length
     ·obtain⟨t,v,b,off,I,hv,rfl,⟨k0,k1,k2,k3,k4,k5,k6,k7,k8⟩, -,Y,hm⟩:=(HO.o.stays P.o).at hlt
      have a1:=HO.o.sub q t v I hv;have b9:(q:Int)< (args.length:Int):=by omega
      have a4:=Ch I;have a5:=Cz args (q+1);have c9:=By 6 (args.take q);have e0:=Dl (args.take q) d;have S:=qh (IH.o t v (Ay (args.take q) d) rv' wr hm (by omega) Y a1 P.o z.o);have b5:=qh I;have b4:=qh (Kz d I);have b1:=qh (Jo d I);unfold Ac at S;clear I hv Y a1 hm a4 a5 c9 e0;generalize hM:Ay (args.take q) d=M at*;have b7:Hid (¬some w.heap.size=rv'.ownBlock):=fun e=>by
       have h1:=O.o.sub (Nat.lt_succ_self _) e;exact e8.o _ ql h1
      cases hty:named t M with
      |true=>
       rw[hty]at S
       go_wp2_with (go_at_call 64
                    (with_reducible refine S.o.mono ?_);rintro e w3 ⟨⟨a3,rfl,hz⟩,j⟩;obtain⟨hz,a2⟩:=hz rfl;have E:Hid (Chg (fun k=>some k=y.ownBlock) w w3):=D.o.trans j (fun k G e=>O.o.sub (Nat.lt_of_lt_of_le G (Nat.le_succ _)) e);have Q:=qh (a9.o.chg j b7.o);have HZ:=qh hz;have b0:=qh (O.o.trans a2 N);have b3:=qh (Nat.le_trans N j.size);clear hz a2)
       go_roundw
       case rel=>exact⟨q+1,a3,by omega,by go_num,rfl,E.o,b3.o,Q.o,by rw[b1.o,HA.o,hty];rfl,by rw[b4.o];exact HZ.o,b0.o⟩
       case measure=>simp[intOf];omega
      |false=>
       rw[hty]at S
       go_wp2_with (go_at_call 64
                    (with_reducible refine S.o.mono ?_);rintro e w3 ⟨⟨a3,rfl, -⟩,j⟩;have E:Hid (Chg (fun k=>some k=y.ownBlock) w w3):=D.o.trans j (fun k G e=>O.o.sub (Nat.lt_of_lt_of_le G (Nat.le_succ _)) e))
       go_ret2;have T:R=false:=by rw[HT.o,Lj d b5.o (by rw[hM];exact hty)]
       exact⟨⟨_,by rw[T];rfl,fun hc=>by rw[T]at hc;cases hc⟩,E.o⟩
     ·have b9:¬(q:Int)< (args.length:Int):=by omega
      have X:q=args.length:=by omega
      have HQ:=qh X;have a0:=Dl (args.take q) d;have b6:=By 6 (args.take q);have e1:=Cz args q;have e4:(Ay (args.take q) d).length<=4096:=by omega
      clear X a0 b6 e1;go_wp2;go_ret2;have b8:=HQ.o;have hA:=HA.o;have U:=z.o;rw[b8,List.take_length]at hA U;have T:R=true:=by rw[HT.o,hA]
      exact⟨⟨_,by rw[T];rfl,fun _=>by rw[a8.o];exact⟨U,O.o.mono (Nat.le_succ _)⟩⟩,D.o⟩
  ·by_cases h6:o=6
   ·subst h6
    rw[if_neg (by decide),Bool.true_and]at HT;rw[if_pos rfl]at a8;go_enter func64,ntmps64;go_wp2
    go_loopw [1,6] (fun m i wr=>∃q:Nat,∃rv':Value,q<=args.length/\i=.int .i64 q/\rv'=m/\Chg (fun k=>some k=y.ownBlock) w wr/\w.heap.size+1<=wr.heap.size/\Box9 wr w.heap.size 6 x0 x1 x2 x3 l h g (.slice a args.length c)/\Dj (args.take q) d=true/\Row wr W0.heap.size 3 1 rv' (Ay (args.take q) d).length (ints (Ay (args.take q) d))/\Near (w.heap.size+1) y rv') (fun _ i _=>args.length-(intOf i).toNat)
    case atStart=>exact⟨0,y,Nat.zero_le _,rfl,rfl,HB.o,(by have:=e2.o;omega),a7.o,rfl,J.o,Near.refl _ _⟩
    case round=>
     obtain⟨q,rv',hq,rfl,rfl,hb,N,V,A,x,u⟩:=hrel;have HA:=qh A;have a9:=qh V;have D:=qh hb;have z:=qh x;have O:=qh u;have P:=qh (e6.o.trans (hb.below (B:=W0.heap.size) L (fun k G e=>by have:=(b2.o.lt k e.symm).1;omega)));obtain⟨d0,d1,d2,d3,d4,d5,d6,d7,d8,d9⟩:=V;clear A x u hb;by_cases hlt:q<args.length
     ·obtain⟨t,v,b,off,I,hv,rfl,⟨k0,k1,k2,k3,k4,k5,k6,k7,k8⟩, -,Y,hm⟩:=(HO.o.stays P.o).at hlt
      have a1:=HO.o.sub q t v I hv;have b9:(q:Int)< (args.length:Int):=by omega
      have a4:=Ch I;have a5:=Cz args (q+1);have c9:=By 6 (args.take q);have e0:=Dl (args.take q) d;have S:=qh (IH.o t v (Ay (args.take q) d) rv' wr hm (by omega) Y a1 P.o z.o);have b5:=qh I;have b4:=qh (Kz d I);have b1:=qh (Jo d I);unfold Ac at S;clear I hv Y a1 hm a4 a5 c9 e0;generalize hM:Ay (args.take q) d=M at*;have b7:Hid (¬some w.heap.size=rv'.ownBlock):=fun e=>by
       have h1:=O.o.sub (Nat.lt_succ_self _) e;exact e8.o _ ql h1
      cases hty:named t M with
      |true=>
       rw[hty]at S
       go_wp2_with (go_at_call 64
                    (with_reducible refine S.o.mono ?_);rintro e w3 ⟨⟨a3,rfl,hz⟩,j⟩;obtain⟨hz,a2⟩:=hz rfl;have E:Hid (Chg (fun k=>some k=y.ownBlock) w w3):=D.o.trans j (fun k G e=>O.o.sub (Nat.lt_of_lt_of_le G (Nat.le_succ _)) e);have Q:=qh (a9.o.chg j b7.o);have HZ:=qh hz;have b0:=qh (O.o.trans a2 N);have b3:=qh (Nat.le_trans N j.size);clear hz a2)
       go_roundw
       case rel=>exact⟨q+1,a3,by omega,by go_num,rfl,E.o,b3.o,Q.o,by rw[b1.o,HA.o,hty];rfl,by rw[b4.o];exact HZ.o,b0.o⟩
       case measure=>simp[intOf];omega
      |false=>
       rw[hty]at S
       go_wp2_with (go_at_call 64
                    (with_reducible refine S.o.mono ?_);rintro e w3 ⟨⟨a3,rfl, -⟩,j⟩;have E:Hid (Chg (fun k=>some k=y.ownBlock) w w3):=D.o.trans j (fun k G e=>O.o.sub (Nat.lt_of_lt_of_le G (Nat.le_succ _)) e))
       go_ret2;have T:R=false:=by rw[HT.o,Lj d b5.o (by rw[hM];exact hty)]
       exact⟨⟨_,by rw[T];rfl,fun hc=>by rw[T]at hc;cases hc⟩,E.o⟩
     ·have b9:¬(q:Int)< (args.length:Int):=by omega
      have X:q=args.length:=by omega
      have HQ:=qh X;have a0:=Dl (args.take q) d;have b6:=By 6 (args.take q);have e1:=Cz args q;have e4:(Ay (args.take q) d).length<=4096:=by omega
      clear X a0 b6 e1;obtain⟨i0,hi,f6,a4,a5⟩:=info_parts int_info;generalize hM:Ay (args.take q) d=M at*;have n1:M.length+1<=maxLen:=by unfold maxLen;omega
      have n2:(M.length+1)*8<=140737488355328:=by omega
      go_wp2_with (at_builtin
                   refine Cu _ rfl _ _ 46 rfl W0.heap.size 3 i0 (.int .i64 0) 1 8 underlying46 hi f6 a4 a5 rfl (by decide) _ M.length (ints M) rfl z.o [.int .i64 g] rfl (by simp[Value.oneCell']) rfl n1 n2 (Nat.le_trans L D.o.size) ?_;intro v' w2 e9 e7 f2)
      go_ret2;have b8:=HQ.o;have hA:=HA.o;rw[b8,List.take_length]at hA hM;have T:R=true:=by rw[HT.o,hA]
      refine⟨⟨_,by rw[T];rfl,fun _=>?_⟩,D.o.trans e7 (fun k G e=>O.o.sub (Nat.lt_of_lt_of_le G (Nat.le_succ _)) e)⟩;rw[a8.o,hM,List.length_append,Zt];refine⟨e9,(O.o.trans (c:=wr.heap.size) (f2.imp id fun h k G=>by have:=h k G;omega) N).mono (Nat.le_succ _)⟩
   ·rw[if_neg h9,Bool.true_and]at HT
    rw[if_neg h6]at a8;have f8:(o==9)=false:=by simp[h9]
    have f7:(o==6)=false:=by simp[h6]
    go_enter func64,ntmps64;go_wp2
    go_loopw [1,6] (fun m i wr=>∃q:Nat,∃rv':Value,q<=args.length/\i=.int .i64 q/\rv'=m/\Chg (fun k=>some k=y.ownBlock) w wr/\w.heap.size+1<=wr.heap.size/\Box9 wr w.heap.size o x0 x1 x2 x3 l h g (.slice a args.length c)/\Dj (args.take q) d=true/\Row wr W0.heap.size 3 1 rv' (Ay (args.take q) d).length (ints (Ay (args.take q) d))/\Near (w.heap.size+1) y rv') (fun _ i _=>args.length-(intOf i).toNat)
    case atStart=>exact⟨0,y,Nat.zero_le _,rfl,rfl,HB.o,(by have:=e2.o;omega),a7.o,rfl,J.o,Near.refl _ _⟩
    case round=>
     obtain⟨q,rv',hq,rfl,rfl,hb,N,V,A,x,u⟩:=hrel;have HA:=qh A;have a9:=qh V;have D:=qh hb;have z:=qh x;have O:=qh u;have P:=qh (e6.o.trans (hb.below (B:=W0.heap.size) L (fun k G e=>by have:=(b2.o.lt k e.symm).1;omega)));obtain⟨d0,d1,d2,d3,d4,d5,d6,d7,d8,d9⟩:=V;clear A x u hb;by_cases hlt:q<args.length
     ·obtain⟨t,v,b,off,I,hv,rfl,⟨k0,k1,k2,k3,k4,k5,k6,k7,k8⟩, -,Y,hm⟩:=(HO.o.stays P.o).at hlt
      have a1:=HO.o.sub q t v I hv;have b9:(q:Int)< (args.length:Int):=by omega
      have a4:=Ch I;have a5:=Cz args (q+1);have c9:=By 6 (args.take q);have e0:=Dl (args.take q) d;have S:=qh (IH.o t v (Ay (args.take q) d) rv' wr hm (by omega) Y a1 P.o z.o);have b5:=qh I;have b4:=qh (Kz d I);have b1:=qh (Jo d I);unfold Ac at S;clear I hv Y a1 hm a4 a5 c9 e0;generalize hM:Ay (args.take q) d=M at*;have b7:Hid (¬some w.heap.size=rv'.ownBlock):=fun e=>by
       have h1:=O.o.sub (Nat.lt_succ_self _) e;exact e8.o _ ql h1
      cases hty:named t M with
      |true=>
       rw[hty]at S
       go_wp2_with (go_at_call 64
                    (with_reducible refine S.o.mono ?_);rintro e w3 ⟨⟨a3,rfl,hz⟩,j⟩;obtain⟨hz,a2⟩:=hz rfl;have E:Hid (Chg (fun k=>some k=y.ownBlock) w w3):=D.o.trans j (fun k G e=>O.o.sub (Nat.lt_of_lt_of_le G (Nat.le_succ _)) e);have Q:=qh (a9.o.chg j b7.o);have HZ:=qh hz;have b0:=qh (O.o.trans a2 N);have b3:=qh (Nat.le_trans N j.size);clear hz a2)
       go_roundw
       case rel=>exact⟨q+1,a3,by omega,by go_num,rfl,E.o,b3.o,Q.o,by rw[b1.o,HA.o,hty];rfl,by rw[b4.o];exact HZ.o,b0.o⟩
       case measure=>simp[intOf];omega
      |false=>
       rw[hty]at S
       go_wp2_with (go_at_call 64
                    (with_reducible refine S.o.mono ?_);rintro e w3 ⟨⟨a3,rfl, -⟩,j⟩;have E:Hid (Chg (fun k=>some k=y.ownBlock) w w3):=D.o.trans j (fun k G e=>O.o.sub (Nat.lt_of_lt_of_le G (Nat.le_succ _)) e))
       go_ret2;have T:R=false:=by rw[HT.o,Lj d b5.o (by rw[hM];exact hty)]
       exact⟨⟨_,by rw[T];rfl,fun hc=>by rw[T]at hc;cases hc⟩,E.o⟩
     ·have b9:¬(q:Int)< (args.length:Int):=by omega
      have X:q=args.length:=by omega
      have HQ:=qh X;have a0:=Dl (args.take q) d;have b6:=By 6 (args.take q);have e1:=Cz args q;have e4:(Ay (args.take q) d).length<=4096:=by omega
      clear X a0 b6 e1;go_wp2;go_ret2;have b8:=HQ.o;have hA:=HA.o;have U:=z.o;rw[b8,List.take_length]at hA U;have T:R=true:=by rw[HT.o,hA]
      exact⟨⟨_,by rw[T];rfl,fun _=>by rw[a8.o];exact⟨U,O.o.mono (Nat.le_succ _)⟩⟩,D.o⟩
end ReMem
namespace ReMem
open Go Go.RowKit MatchMath Strs
def SpRd (w:World) (v:Value) (l:List Span):Prop:=∃a c,v=.slice a l.length c/\(l.length<=c/\c<=maxLen)/\(l≠ []->∃b off,a=some ⟨b,off,none⟩/\∀(j:Nat) (x:Span),l[j]? =some x->w.cell? ⟨b,off+j*2,none⟩=some (.int .i64 x.1)/\w.cell? ⟨b,off+j*2+1,none⟩=some (.int .i64 x.2))
theorem Al.rd {w:World} {v:Value} {l:List Span} (h:Al w v l):SpRd w v l:=by
 obtain⟨a,c,rfl,n,o⟩:=h;refine⟨a,c,rfl,n,fun d=>?_⟩;obtain⟨b,off,m,fz,rfl,e,i⟩:=o d;exact⟨b,off,rfl,fun j x g=>⟨by rw[qc e];exact (i j x g).1,by rw[qc e];exact (i j x g).2⟩⟩
theorem SpRd.stays {w m:World} {v:Value} {l:List Span} (h:SpRd w v l) (i:qw w m):SpRd m v l:=by
 obtain⟨a,c,rfl,n,o⟩:=h;refine⟨a,c,rfl,n,fun g=>?_⟩;obtain⟨b,off,rfl,e⟩:=o g;exact⟨b,off,rfl,fun j x d=>⟨by rw[i.cell (World.block_lt_of_cell? w _ (e j x d).1)];exact (e j x d).1,by rw[i.cell (World.block_lt_of_cell? w _ (e j x d).2)];exact (e j x d).2⟩⟩
theorem list_eq_upto {α:Type} {l m:List α} (a:l.length=m.length) (h:∀j,j<l.length->l[j]? =m[j]?):l=m:=by
 refine List.ext_getElem? fun j=>?_;by_cases hj:j<l.length
 · exact h j hj
 · rw[List.getElem?_eq_none (by omega),List.getElem?_eq_none (by omega)]
theorem Es (a b:Value) (l m:List Span) (w:World) (W:SpRd w a l) (X:SpRd w b m):
  Calls Tryz.prog 21 #[a,b] w fun r w'=>r=.returned (.bool (decide (l=m)))/\qw w w':=by
 obtain⟨aa,ca,rfl,c,A⟩:=W;obtain⟨ab,cb,rfl,d,B⟩:=X;have Y:l.length<=9223372036854775807:=Nat.le_trans c.1 c.2;have M:m.length<=9223372036854775807:=Nat.le_trans d.1 d.2;clear c d;obtain⟨R,K⟩:∃R,decide (l=m)=R:=⟨_,rfl⟩;rw[K];have HR:=qh K;clear K;have I:=qh A;have J:=qh B;clear A B;by_cases hlen:l.length=m.length
 ·have G:=qh hlen
  have u:(m.length:Int)=(l.length:Int):=by omega
  rw[<- hlen];clear u hlen M;go_enter func21,ntmps21;go_wp2
  go_loopw [5] (fun i wr=>∃k n:Nat,k<=l.length/\i=.int .i64 k/\wr=w.drewN n/\∀j,j<k->l[j]? =m[j]?) (fun i _=>l.length-(intOf i).toNat)
  case atStart=>exact⟨0,0,Nat.zero_le _,rfl,rfl,fun j L=>absurd L (Nat.not_lt_zero _)⟩
  case round=>
   obtain⟨k,n,hk,rfl,rfl,g⟩:=hrel;have N:=qh g;clear g;by_cases z:k<l.length
   ·have V:(k:Int)< (l.length:Int):=by omega
    obtain⟨bx,ox,rfl,C⟩:=I.o (by intro e;subst e;simp at z);obtain⟨bY,oY,rfl,D⟩:=J.o (by intro e;have P:=G.o;rw[e]at P;simp only[List.length_nil]at P;omega);have h:l[k]? =some l[k]:=List.getElem?_eq_getElem z;have p:m[k]? =some (m[k]'(by have:=G.o;omega)):=List.getElem?_eq_getElem _;obtain⟨x1,x2⟩:=C k _ h;obtain⟨y1,y2⟩:=D k _ p;have q:=qh h;have t:=qh p;clear h p C D;generalize l[k]=x at*;generalize (m[k]'(by have:=G.o;omega))=y at*;by_cases hxy:x=y
    ·subst hxy
     go_wp2
     go_quiet (fail)
     go_wp2;go_roundw
     case rel=>exact⟨k+1,_,by omega,by go_num,rfl,fun j L=>by
      by_cases hjk:j=k
      ·subst hjk
       rw[q.o,t.o]
      · exact N.o j (by omega)⟩
     case measure=>simp[intOf];omega
    ·have E:Hid (R=false):=by
      show _=_;rw[<- HR.o,decide_eq_false_iff_not];intro e;have z:=q.o;rw[e,t.o]at z;cases z
      exact hxy rfl
     obtain⟨Q,xb⟩:=x;obtain⟨S,yb⟩:=y;simp only at x1 x2 y1 y2;by_cases u:Q=S
     ·subst u
      have O:(xb==yb)=false:=by simp;intro e;exact hxy (by rw[e])
      clear hxy;go_wp2
      go_quiet (fail)
      go_wp2;go_ret;exact⟨by rw[E.o];rfl,Base.Ba (Base.Ba (Below.refl _ _) _) _⟩
     ·have O:(Q==S)=false:=by simp[u]
      clear hxy u;go_wp2
      go_quiet (fail)
      go_wp2;go_ret;exact⟨by rw[E.o];rfl,Base.Ba (Base.Ba (Below.refl _ _) _) _⟩
   ·have T:Hid (k=l.length):=by show _=_;omega
    have V:¬(k:Int)< (l.length:Int):=by omega
    have U:Hid (R=true):=by
     show _=_;rw[<- HR.o,decide_eq_true_eq];exact list_eq_upto G.o fun j L=>N.o j (by have:=T.o;omega)
    go_wp2;go_ret;exact⟨by rw[U.o];rfl,Base.Ba (Below.refl _ _) _⟩
 ·have E:Hid (R=false):=by
   show _=_;rw[<- HR.o,decide_eq_false_iff_not];intro e;exact hlen (by rw[e])
  have O:((l.length:Int)==(m.length:Int))=false:=by simp;omega
  have b3:((l.length:Int) != (m.length:Int))=true:=by simp;omega
  clear hlen;go_enter func21,ntmps21;go_wp2;go_ret;exact⟨by rw[E.o];rfl,Below.refl _ _⟩
theorem Qq:(Tryz.prog.info? 53).map (fun i=>(i.zero,i.size,i.bytes))=some (some (.agg #[.int .i64 0,.int .i64 0]),2,16):=by kernel_rfl
theorem rep_snoc (n:Nat) (x:Span):List.replicate (n+1) x=List.replicate n x++ [x]:=by rw[List.replicate_succ']
theorem refNone_any (n:Nat) (w:World) (E:n<=4096):
  Calls Tryz.prog 90 #[.int .i64 n] w fun r w'=>(∃v,r=.returned v/\Al w' v (List.replicate n Cj))/\qw w w':=by
 obtain⟨A,hi,l,m,p⟩:=info_parts Qq;have z:(n:Int)<=4096:=by omega
 go_enter func90,ntmps90;go_wp2
 go_loopw [3,4] (fun v i wr=>∃(q:Nat) (t:Value),q<=n/\i=.int .i64 q/\t=v/\Own.Row wr w.heap.size 53 2 t q (Az (List.replicate q Cj))/\qw w wr) (fun _ i _=>n-(intOf i).toNat)
 case atStart=>exact⟨0,_,Nat.zero_le _,rfl,rfl,Own.Row.nil _ _ _ _,Below.refl _ _⟩
 case round=>
  obtain⟨q,t,G,rfl,rfl,c,u⟩:=hrel;have a:=qh c;have b:=qh u;clear c u;by_cases hlt:q<n
  ·have j:(q:Int)< (n:Int):=by omega
   have n1:q+1<=maxLen:=by unfold maxLen;omega
   have B:(q+1)*16<=140737488355328:=by omega
   go_wp2_with (at_builtin
                refine Cu _ rfl _ _ 40 rfl w.heap.size 53 A (.agg #[.int .i64 0,.int .i64 0]) 2 16 underlying40 hi l m p rfl (by decide) _ q (Az (List.replicate q Cj)) rfl a.o [.int .i64 (-1),.int .i64 (-1)] rfl (by simp[Value.oneCell']) rfl n1 B b.o.size ?_;intro C I g d x)
   go_roundw
   case rel=>exact⟨q+1,C,by omega,by go_num,rfl,by rw[rep_snoc,Gz];exact g,b.o.trans (d.below b.o.size (fun k D e=>by have:=(a.o.lt k e.symm).1;omega))⟩
   case measure=>simp[intOf];omega
  ·have j:¬(q:Int)< (n:Int):=by omega
   have y:Hid (q=n):=by show _=_;omega
   go_wp2;go_ret;exact⟨⟨_,rfl,by have h:=a.o;rw[y.o]at h;exact Al.of_row (by rw[List.length_replicate];exact h)⟩,b.o⟩
theorem withS_at (l:List Span) (g:Int) (x:Span) (q:Nat):(Di l g x)[q]? =if (q:Int)=g-1 then (l[q]?).map (fun _=>x) else l[q]? :=by
 unfold Di;by_cases hg:1<=g
 ·rw[if_pos hg,List.getElem?_set]
  by_cases hq:g.toNat-1=q
  ·subst hq
   by_cases hl:g.toNat-1<l.length
   ·rw[if_pos rfl,if_pos hl,if_pos (by omega),List.getElem?_eq_getElem hl]
    rfl
   ·rw[if_pos rfl,if_neg hl,if_pos (by omega),List.getElem?_eq_none (by omega)]
    rfl
  · rw[if_neg hq,if_neg (by omega)]
 · rw[if_neg hg,if_neg (by omega)]
theorem refWith_any (v:Value) (l:List Span) (g:Int) (x:Span) (w:World) (h:Al w v l) (hl:l.length<=4096) (T: -4096<=g/\g<=4096):
  Calls Tryz.prog 131 #[v,.int .i64 g,.int .i64 x.1,.int .i64 x.2] w fun r w'=>(∃v,r=.returned v/\Al w' v (Di l g x))/\qw w w':=by
 obtain⟨N,hi,C,D,E⟩:=info_parts Qq;obtain⟨a,c,rfl⟩:=h.shape;have H:=qh h;have I:Hid ((Di l g x).length=l.length):=Ha l g x;have A:=qh (withS_at l g x);obtain⟨X,Y⟩:=T;have V:(l.length:Int)<=4096:=by omega
 clear h;generalize Di l g x=m at*;obtain⟨P,Q⟩:=x;go_enter func131,ntmps131;go_wp2
 go_loopw [9,10] (fun v i wr=>∃(q:Nat) (K:Value),q<=l.length/\i=.int .i64 q/\K=v/\Own.Row wr w.heap.size 53 2 K q (Az (m.take q))/\qw w wr) (fun _ i _=>l.length-(intOf i).toNat)
 case atStart=>exact⟨0,_,Nat.zero_le _,rfl,rfl,Own.Row.nil _ _ _ _,Below.refl _ _⟩
 case round=>
  obtain⟨q,K,hq,rfl,rfl,u,G⟩:=hrel;have j:=qh u;have d:=qh G;clear u;by_cases hlt:q<l.length
  ·have J:(q:Int)< (l.length:Int):=by omega
   have n1:q+1<=maxLen:=by unfold maxLen;omega
   have O:(q+1)*16<=140737488355328:=by omega
   have t:l[q]? =some l[q]:=List.getElem?_eq_getElem hlt;obtain⟨b,off,rfl,c1,c2⟩:=(H.o.stays G).at t;have M:=qh t;clear G t;generalize l[q]=y at*;by_cases hqg:(q:Int)=g-1
   ·have t:=A.o q
    rw[if_pos hqg,M.o]at t;have z:Hid (m.take (q+1)=m.take q++ [(P,Q)]):=Bt t;have S:((q:Int)==g-1)=true:=by simp[hqg]
    clear t hqg
    go_wp2_with (at_builtin
                 refine Bg _ rfl _ _ 40 rfl w.heap.size 53 N (.agg #[.int .i64 0,.int .i64 0]) 2 16 underlying40 hi C D E rfl (by decide) _ q (Az (m.take q)) rfl (j.o.alloc _) [.int .i64 P,.int .i64 Q] rfl (by simp[Value.oneCell']) (wr.heap.size+1) (by simp) rfl n1 O (Nat.le_trans d.o.size (by simp)) ?_;intro L W p n B)
    go_roundw
    case rel=>exact⟨q+1,L,by omega,by go_num,rfl,by rw[z.o,Gz];exact p,(d.o.alloc d.o.size _).trans (n.below (Nat.le_trans d.o.size (by simp)) (fun k U e=>by have:=(j.o.lt k e.symm).1;omega))⟩
    case measure=>simp[intOf];omega
   ·have t:=A.o q
    rw[if_neg hqg,M.o]at t;have z:Hid (m.take (q+1)=m.take q++ [y]):=Bt t;have S:((q:Int)==g-1)=false:=by simp[hqg]
    clear t hqg
    go_wp2_with (at_builtin
                 refine Bg _ rfl _ _ 40 rfl w.heap.size 53 N (.agg #[.int .i64 0,.int .i64 0]) 2 16 underlying40 hi C D E rfl (by decide) _ q (Az (m.take q)) rfl (j.o.alloc _) [.int .i64 y.1,.int .i64 y.2] rfl (by simp[Value.oneCell']) (wr.heap.size+1) (by simp) rfl n1 O (Nat.le_trans d.o.size (by simp)) ?_;intro L W p n B)
    go_roundw
    case rel=>exact⟨q+1,L,by omega,by go_num,rfl,by rw[z.o,Gz];exact p,(d.o.alloc d.o.size _).trans (n.below (Nat.le_trans d.o.size (by simp)) (fun k U e=>by have:=(j.o.lt k e.symm).1;omega))⟩
    case measure=>simp[intOf];omega
  ·have J:¬(q:Int)< (l.length:Int):=by omega
   have R:Hid (q=l.length):=by show _=_;omega
   clear G;go_wp2;go_ret;refine⟨⟨_,rfl,Al.of_row (base:=w.heap.size) ?_⟩,d.o⟩;have h:=j.o;rw[R.o,<-I.o,List.take_length]at h;exact h
end ReMem
namespace ReMem
open Go Go.RowKit MatchMath Strs
theorem par_info:(Tryz.prog.info? 119).map (fun i=>(i.zero,i.size,i.bytes))=some (some (.agg #[.int .i64 0,.slice none 0 0]),2,32):=by kernel_rfl
theorem mem_upto {α:Type} {l:List α} {p:α} (h:∀j,j<l.length->l[j]? ≠some p):¬p∈l:=by
 intro b;obtain⟨j,a,e⟩:=List.mem_iff_getElem.1 b;exact h j a (by rw[List.getElem?_eq_getElem a,e])
theorem PRow.form {w:World} {base:Nat} {v:Value} {l:List Parse} (h:PRow w base v l):∃a c,v=.slice a l.length c:=by
 obtain⟨e,b,hr,d⟩:=h;exact hr.form
theorem Iy (v sv:Value) (l:List Parse) (p:Parse) (base:Nat) (w:World) (h:PRow w base v l) (hs:Al w sv p.2) (D:base<=w.heap.size) (hn:l.length<=1000000):
  Calls Tryz.prog 127 #[v,.int .i64 (p.1:Int),sv] w fun r w'=>(∃v',r=.returned v'/\PRow w' base v' (addU l p)/\Near w.heap.size v v')/\Chg (fun k=>some k=v.ownBlock) w w':=by
 obtain⟨i0,hi,a1,a2,a3⟩:=info_parts par_info;obtain⟨a,c,rfl⟩:=h.form;obtain⟨sa,sc,rfl⟩:=hs.shape;have U:=qh h;have HL:=qh h.lies;have HS:=qh hs;have a5:(l.length:Int)<=1000000:=by omega
 have n1:l.length+1<=maxLen:=by unfold maxLen;omega
 have n2:(l.length+1)*32<=140737488355328:=by omega
 clear h hs;obtain⟨I,d⟩:=p;simp only at*;have a6:Hid (d.length<=9223372036854775807):=by
  show _<=_;obtain⟨a',c',e,hc, -⟩:=HS.o;exact Nat.le_trans hc.1 hc.2
 go_enter func127,ntmps127;go_wp2
 go_loopw [7] (fun i wr=>∃q:Nat,q<=l.length/\i=.int .i64 q/\qw w wr/\∀j,j<q->l[j]? ≠some (I,d)) (fun i _=>l.length-(intOf i).toNat)
 case atStart=>exact⟨0,Nat.zero_le _,rfl,Below.refl _ _,fun j O=>absurd O (Nat.not_lt_zero _)⟩
 case round=>
  obtain⟨q,hq,rfl,z,x⟩:=hrel;have Q:=qh x;have m:=qh z;clear x;by_cases hlt:q<l.length
  ·have a0:(q:Int)< (l.length:Int):=by omega
   have hz:l[q]? =some l[q]:=List.getElem?_eq_getElem hlt;obtain⟨b,off,a9,rfl,c1,c2,G⟩:=(HL.o.stays z).at hz;obtain⟨a7,a8,rfl⟩:=G.shape;have Y:=qh hz;have u:=qh (Es _ _ l[q].2 d wr G.rd (HS.o.stays z).rd);clear z hz G;generalize l[q]=y at*;obtain⟨P,J⟩:=y;simp only at*;by_cases he:P=I
   ·subst he
    by_cases hsp:J=d
    ·have R:Hid (addU l (P,d)=l):=by show _=_;exact Uw (List.mem_of_getElem? (by rw[Y.o,hsp]))
     have g:decide (J=d)=true:=decide_eq_true hsp;rw[g]at u;clear hsp g
     go_wp2_with (go_at_call 21
                  (refine u.o.mono ?_);rintro e w3 ⟨rfl,C⟩;have t:=qh (Ab m.o C))
     go_ret;exact⟨⟨_,rfl,by rw[R.o];exact U.o.stays t.o,Near.refl _ _⟩,Chg.of t.o⟩
    ·have g:decide (J=d)=false:=decide_eq_false hsp
     have B:Hid (l[q]? ≠some (P,d)):=by
      show _≠_;rw[Y.o];intro e;injection e with e;injection e with _ e;exact hsp e
     rw[g]at u;clear hsp g
     go_wp2_with (go_at_call 21
                  (refine u.o.mono ?_);rintro e w3 ⟨rfl,C⟩;have t:=qh (Ab m.o C))
     go_roundw
     case rel=>exact⟨q+1,by omega,by go_num,t.o,fun j O=>by
      by_cases hjq:j=q
      ·subst hjq
       exact B.o
      · exact Q.o j (by omega)⟩
     case measure=>simp[intOf];omega
   ·have a4:((P:Int)==(I:Int))=false:=by simp;omega
    have B:Hid (l[q]? ≠some (I,d)):=by
     show _≠_;rw[Y.o];intro e;injection e with e;injection e with e _;exact he e
    clear he;go_wp2;go_roundw
    case rel=>exact⟨q+1,by omega,by go_num,m.o,fun j O=>by
     by_cases hjq:j=q
     ·subst hjq
      exact B.o
     · exact Q.o j (by omega)⟩
    case measure=>simp[intOf];omega
  ·have a0:¬(q:Int)< (l.length:Int):=by omega
   have S:Hid (addU l (I,d)=l++ [(I,d)]):=by
    show _=_;exact if_neg (mem_upto fun j O=>Q.o j (by omega))
   obtain⟨vs,N,A,M⟩:=U.o.stays z;have K:=qh A;have X:=qh N;have W:=qh M;have T:=qh (U.o.stays z).noSp;have V:=qh (HS.o.stays z);clear z A N M
   go_wp2_with (at_builtin
                refine Cu _ rfl _ _ 115 rfl base 119 i0 (.agg #[.int .i64 0,.slice none 0 0]) 2 32 underlying115 hi a1 a2 a3 rfl (by decide) _ l.length (Dq l vs) rfl K.o [.int .i64 I,.slice sa d.length sc] rfl (by simp[Value.oneCell']) rfl n1 n2 (Nat.le_trans D m.o.size) ?_;intro v' w2 E n L)
   go_ret;refine⟨⟨_,rfl,?_,?_⟩,(Chg.of m.o).trans n (fun k _ e=>e)⟩
   ·rw[S.o]
    exact PRow.more X.o W.o V.o E n T.o
   ·have:=m.o.size
    exact L.imp id fun h k hk=>by have:=h k hk;omega
end ReMem
end Go.Proofs.YtjefcpjciogcjaaGreatDoor
