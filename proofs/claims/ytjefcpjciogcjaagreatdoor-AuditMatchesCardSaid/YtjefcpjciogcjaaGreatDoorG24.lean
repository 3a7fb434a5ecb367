/- Lemmas for the walk of the law, in 4 parts. No condition beyond what each states. -/
import Derived.Test.YtjefcpjciogcjaaGreatDoorG5
import Derived.Test.YtjefcpjciogcjaaGreatDoorG23
import Derived.Test.YtjefcpjciogcjaaGreatDoorG18
import Derived.Test.YtjefcpjciogcjaaGreatDoorG6
import Derived.Test.YtjefcpjciogcjaaGreatDoorG21
namespace Go.Proofs.YtjefcpjciogcjaaGreatDoor
set_option maxRecDepth 100000
set_option linter.unusedVariables false
set_option maxHeartbeats 16000000
open Tryz
namespace ReMem
open Go Go.RowKit MatchMath Strs
theorem limited_any (n:Int) (w:World):Calls Tryz.prog 140 #[.int .i64 n] w fun r w'=>r=.returned (.int .i64 (min 4097 n))/\qw w w':=by
 by_cases h:4096<n
 ·have e:Hid (min 4097 n=4097):=by show _=_;omega
  go_enter func140,ntmps140;go_wp2;go_ret;exact⟨by rw[e.o];rfl,Below.refl _ _⟩
 ·have e:Hid (min 4097 n=n):=by show _=_;omega
  go_enter func140,ntmps140;go_wp2;go_ret;exact⟨by rw[e.o];rfl,Below.refl _ _⟩
theorem simple_any (e:Re) (v:Value) (w:World):Calls Tryz.prog 141 #[Ac v e] w fun r w'=>r=.returned (.bool (simple e.lo e.hi))/\qw w w':=by
 have HS:Hid (simple e.lo e.hi=decide (e.lo=0/\e.hi=1\/e.lo<=1/\e.hi= -1)):=rfl;unfold Ac;generalize simple e.lo e.hi=S at*;generalize e.op=o at*;generalize e.lo=l at*;generalize e.hi=h at*;generalize e.group=g at*;generalize Sets.Aa e.set 0=x0 at*;generalize Sets.Aa e.set 1=x1 at*;generalize Sets.Aa e.set 2=x2 at*;generalize Sets.Aa e.set 3=x3 at*;by_cases h1:l=0
 ·subst h1
  by_cases h2:h=1
  ·subst h2
   have e:Hid (S=true):=HS.o;go_enter func141,ntmps141;go_wp2;go_ret;exact⟨by rw[e.o];rfl,(Below.refl _ w).alloc ql _⟩
  ·have b:(h==1)=false:=by simp[h2]
   have e:Hid (S=(h== -1)):=by show _=_;rw[HS.o,Bool.eq_iff_iff];simp[h2]
   clear h2;go_enter func141,ntmps141;go_wp2;go_ret;exact⟨by rw[e.o];rfl,(Below.refl _ w).alloc ql _⟩
 ·have b:(l==0)=false:=by simp[h1]
  by_cases h3:l<=1
  ·have e:Hid (S=(h== -1)):=by show _=_;rw[HS.o,Bool.eq_iff_iff];simp[h1,h3]
   clear h1;go_enter func141,ntmps141;go_wp2;go_ret;exact⟨by rw[e.o];rfl,(Below.refl _ w).alloc ql _⟩
  ·have e:Hid (S=false):=by show _=_;rw[HS.o];simp[h1,h3]
   clear h1;go_enter func141,ntmps141;go_wp2;go_ret;exact⟨by rw[e.o];rfl,(Below.refl _ w).alloc ql _⟩
theorem Yu {n l h:Int} (a:counted l h=true):weight n l h=if simple l h=true then n+1 else if h=0 then 1 else if l=1/\h=1 then n else if h= -1 then l*n+2 else l*n+(h-l)*(n+1)+1:=by
 obtain⟨b,c,d⟩:=Ew a;unfold weight simple;simp only[decide_eq_true_eq];by_cases q:l=0/\h=1\/l<=1/\h= -1
 · rw[if_pos q,if_pos (by omega)]
 ·rw[if_neg q,if_neg (by omega)]
  by_cases q2:h=0
  · rw[if_pos q2,if_pos q2]
  ·rw[if_neg q2,if_neg q2]
   by_cases q3:l=1/\h=1
   · rw[if_pos q3,if_pos q3]
   ·rw[if_neg q3,if_neg q3]
    by_cases q4:h=l
    ·rw[if_pos q4]
     rw[if_neg (by omega),show h-l=0 by omega];omega
    ·rw[if_neg q4]
     split <;> omega
theorem Qi:∀(n:Nat) (e:Re) (v:Value) (w:World),size e<n->bnd e=true->Ag e->Lies w v e.args->
  Calls Tryz.prog 95 #[Ac v e] w fun r w'=>r=.returned (.int .i64 (min 4097 (grown e)))/\qw w w':=by
 intro n
 induction n with
 | zero=>intro e v w hn;omega
 |succ n ih=>
  intro e v w hn a2 a5 hl;obtain⟨o,p,l,h,g,args⟩:=e;obtain⟨a,c,vs,rfl,⟨b5,a9⟩,ho⟩:=hl.opened;have IH:=qh (fun t v W (ht:t∈args)=>ih t v W (Nat.lt_of_lt_of_le (Bo (e:=.mk o p l h g args) ht) (Nat.le_of_lt_succ hn)));clear ih hn hl;rw[bnd,Bool.and_eq_true]at a2;obtain⟨a1,O⟩:=a2;have V:=qh O;have N:Hid (grown (.mk o p l h g args)=if o=5 then weight (growns args) l h else growns args+1):=by show _=_;rw[grown]
  have e0:=Er args O;have B:=qh (fun W=>simple_any (.mk o p l h g args) (.slice a args.length c) W);unfold Ac at B ⊢;simp only[Re.op,Re.set,Re.lo,Re.hi,Re.group,Re.args]at*;have c9:args.length<=9223372036854775807:=Nat.le_trans b5 a9;have HO:=qh ho;clear ho a5 O;generalize grown (.mk o p l h g args)=R at*;generalize Sets.Aa p 0=x0 at*;generalize Sets.Aa p 1=x1 at*;generalize Sets.Aa p 2=x2 at*;generalize Sets.Aa p 3=x3 at*;have HB:=qh (qb w (.cells #[.int .i64 o,.int .u64 x0,.int .u64 x1,.int .u64 x2,.int .u64 x3,.int .i64 l,.int .i64 h,.int .i64 g,.slice a args.length c] 28));have a0:=qh (Box9.new w o x0 x1 x2 x3 l h g (.slice a args.length c) 28);have U:=qh a1;have I:=qh limited_any;clear a1;go_enter func95,ntmps95;go_wp2
  go_loopw [3,4] (fun m i wr=>∃q:Nat,q<=args.length/\i=.int .i64 q/\m=.int .i64 (min 4097 (growns (args.take q)))/\qw w wr/\Box9 wr w.heap.size o x0 x1 x2 x3 l h g (.slice a args.length c)) (fun _ i _=>args.length-(intOf i).toNat)
  case atStart=>exact⟨0,Nat.zero_le _,rfl,by rw[List.take_zero,growns];rfl,HB.o,a0.o⟩
  case round=>
   obtain⟨q,hq,rfl,rfl,hb,a3⟩:=hrel;have G:=qh a3;have D:=qh hb;obtain⟨d0,d1,d2,d3,d4,d5,d6,d7,d8,d9⟩:=a3;have K:=Er _ (Rd args q V.o);have b7:0<=min 4097 (growns (args.take q)):=by omega
   have e8:min 4097 (growns (args.take q))<=4097:=by omega
   by_cases hlt:q<args.length
   ·obtain⟨t,v,b,off,ht,hv,rfl,⟨k0,k1,k2,k3,k4,k5,k6,k7,k8⟩,Q,a6,hm⟩:=(HO.o.stays hb).at hlt
    have b6:(q:Int)< (args.length:Int):=by omega
    have P:=Vd V.o hm;have a7:=Lf t P;have HC:=qh (IH.o t v wr hm P a6 Q);have a8:Hid (min 4097 (min 4097 (growns (args.take q))+min 4097 (grown t))=min 4097 (growns (args.take (q+1)))):=by show _=_;rw[Sz ht];exact cap_add K a7 (by omega)
    have e6:0<=min 4097 (grown t):=by omega
    have e7:min 4097 (grown t)<=4097:=by omega
    unfold Ac at HC;obtain⟨va,vc,rfl⟩:=Q.shape;clear ht hv a6 Q hm hb P K a7;generalize min 4097 (growns (args.take q))=z at*;generalize min 4097 (grown t)=y at*;go_wp2_with (first
     | (go_at_call 95
        (refine HC.o.mono ?_);rintro e T ⟨rfl,d⟩;have j:=qh (Ab D.o d);have X:=qh (G.o.stays d))
     | (go_at_call 140
        (refine (I.o _ _).mono ?_);rintro e w4 ⟨rfl,u⟩;have x:=qh (Ab j.o u);have Y:=qh (X.o.stays u)))
    go_roundw
    case rel=>exact⟨q+1,by omega,by go_num,by rw[<- a8.o],x.o,Y.o⟩
    case measure=>simp[intOf];omega
   ·have b6:¬(q:Int)< (args.length:Int):=by omega
    have a4:q=args.length:=by omega
    have HQ:Hid (growns (args.take q)=growns args):=by show _=_;rw[a4,List.take_length]
    clear hb a4;by_cases h5:o=5
    ·subst h5
     have L:counted l h=true:=by have:=U.o;rw[if_pos rfl]at this;exact this
     obtain⟨q1,q2,q3⟩:=Ew L;have A:Hid (min 4097 (weight (min 4097 (growns (args.take q))) l h)=min 4097 R):=by
      show _=_;have:=N.o;rw[if_pos rfl]at this;rw[HQ.o,Xt (by omega) (by rw[<- HQ.o];exact K) L,this]
     have E:=qh (Yu (n:=min 4097 (growns (args.take q))) L);clear K L N U;generalize min 4097 (growns (args.take q))=z at*;generalize weight z l h=y at*;obtain⟨m1,m2⟩:=mul_le_64 q1 q2 b7 (by omega:z<=1073741824);cases hsi:simple l h with
     |true=>
      rw[hsi]at B;have HR:Hid (min 4097 (z+1)=min 4097 R):=by show _=_;rw[<- A.o,E.o,if_pos hsi]
      clear hsi E A q3;go_wp2_with (first
         | (go_at_call 141
            (refine (B.o _).mono ?_);rintro e T ⟨rfl,d⟩;have j:=qh (Ab D.o d))
         | (go_at_call 140
            (refine (I.o _ _).mono ?_);rintro e w4 ⟨rfl,u⟩;have x:=qh (Ab j.o u)))
      go_ret;exact⟨by rw[<- HR.o];rfl,x.o⟩
     |false=>
      rw[hsi]at B;have C:=E.o;rw[if_neg (by rw[hsi];decide)]at C;rcases (by omega:h=0\/(l=1/\h=1)\/(h≠0/\¬(l=1/\h=1)/\h= -1)\/(h≠0/\¬(l=1/\h=1)/\h≠ -1)) with J | ⟨J,M⟩ | ⟨J,M,S⟩ | ⟨J,M,S⟩
      ·  have HR:Hid (1=min 4097 R):=by show _=_;rw[<- A.o,C,if_pos J];rfl
         subst J;clear hsi E A q3 C
         go_wp2_with (go_at_call 141
                      (refine (B.o _).mono ?_);rintro e T ⟨rfl,d⟩;have j:=qh (Ab D.o d);obtain⟨f0,f1,f2,f3,f4,f5,f6,f7,f8, -⟩:=G.o.stays d)
         go_ret;exact⟨by rw[<- HR.o];rfl,j.o⟩
      ·  have HR:Hid (z=min 4097 R):=by show _=_;rw[<- A.o,C,if_neg (by omega),if_pos ⟨J,M⟩];omega
         subst J M;clear hsi E A q3 C
         go_wp2_with (go_at_call 141
                      (refine (B.o _).mono ?_);rintro e T ⟨rfl,d⟩;have j:=qh (Ab D.o d);obtain⟨f0,f1,f2,f3,f4,f5,f6,f7,f8, -⟩:=G.o.stays d)
         go_ret;exact⟨by rw[<- HR.o];rfl,j.o⟩
      ·  have HR:Hid (min 4097 (l*z+2)=min 4097 R):=by show _=_;rw[<- A.o,C,if_neg J,if_neg M,if_pos S]
         have e3:2<=l:=by
          have:¬(l<=1):=fun e4=>by
             have:=hsi;unfold simple at this;rw[decide_eq_false_iff_not]at this;omega
          omega
         have b0:(l==1)=false:=by simp;omega
         subst S;clear hsi E A q3 C J M;go_wp2_with (first
          | ( go_at_call 141
              (refine (B.o _).mono ?_);rintro e T ⟨rfl,d⟩;have j:=qh (Ab D.o d);obtain⟨f0,f1,f2,f3,f4,f5,f6,f7,f8, -⟩:=G.o.stays d)
          | ( go_at_call 140
              (refine (I.o _ _).mono ?_);rintro e w4 ⟨rfl,u⟩;have x:=qh (Ab j.o u)))
         all_goals
          go_ret;exact⟨by rw[<- HR.o];rfl,x.o⟩
      ·  have e5:l<=h/\h<=64:=by omega
         have m3:=Int.mul_nonneg (show (0:Int)<=h-l by omega) (show (0:Int)<=z+1 by omega);have m4:=Int.mul_le_mul (show h-l<=64 by omega) (show z+1<=4098 by omega) (by omega) (by omega);have HR:Hid (min 4097 (l*z+(h-l)*(z+1)+1)=min 4097 R):=by show _=_;rw[<- A.o,C,if_neg J,if_neg M,if_neg S]
         have b1:(h==0)=false:=by simp[J]
         have b3:(h== -1)=false:=by simp[S]
         have e1:0<=h-l:=by omega
         have e2:h-l<=64:=by omega
         have b2:(l==1&&h==1)=false:=by simp;omega
         clear hsi E A q3 C J S;by_cases c1:l=1
         ·have b4:(h==1)=false:=by simp;omega
          subst c1;rw[Int.one_mul]at HR;have e9:0<=z+(h-1)*(z+1)/\z+(h-1)*(z+1)<=300000:=by omega
          clear M b2 m1 m2;go_wp2_with (first
             | (go_at_call 141
                (refine (B.o _).mono ?_);rintro e T ⟨rfl,d⟩;have j:=qh (Ab D.o d);obtain⟨f0,f1,f2,f3,f4,f5,f6,f7,f8, -⟩:=G.o.stays d)
             | (go_at_call 140
                (refine (I.o _ _).mono ?_);rintro e w4 ⟨rfl,u⟩;have x:=qh (Ab j.o u)))
          go_ret;exact⟨by rw[<- HR.o];rfl,x.o⟩
         ·have b4:(l==1)=false:=by simp[c1]
          clear M b2 c1;go_wp2_with (first
             | (go_at_call 141
                (refine (B.o _).mono ?_);rintro e T ⟨rfl,d⟩;have j:=qh (Ab D.o d);obtain⟨f0,f1,f2,f3,f4,f5,f6,f7,f8, -⟩:=G.o.stays d)
             | (go_at_call 140
                (refine (I.o _ _).mono ?_);rintro e w4 ⟨rfl,u⟩;have x:=qh (Ab j.o u)))
          go_ret;exact⟨by rw[<- HR.o];rfl,x.o⟩
    ·have b8:(o != 5)=true:=by simp[h5]
     have b9:(o==5)=false:=by simp[h5]
     have HR:Hid (min 4097 (min 4097 (growns (args.take q))+1)=min 4097 R):=by
      show _=_;have:=N.o;rw[if_neg h5]at this;rw[HQ.o,this];omega
     clear h5 K;generalize min 4097 (growns (args.take q))=z at*
     go_wp2_with (go_at_call 140
                  (refine (I.o _ _).mono ?_);rintro e w4 ⟨rfl,u⟩;have x:=qh (Ab D.o u))
     go_ret;exact⟨by rw[<- HR.o];rfl,x.o⟩
end ReMem
namespace MatchMath
mutual
theorem Zf (k:Nat):∀(e:Re) (n:Nat) (cl:List Int),ranged e n=true->n+Af 6 e<=k->(∀g∈cl,1<=g/\g<=(k:Int))->∀g∈closes e cl,1<=g/\g<=(k:Int)
 | .mk o s l h g args,n,cl,hr,hn,hc=>by
   unfold ranged at hr;unfold Af at hn;simp only[Bool.and_eq_true]at hr;unfold closes;by_cases ho:o=6
   ·rw[if_pos ho]at hr hn ⊢
    simp only[Bool.and_eq_true,decide_eq_true_eq]at hr;intro x hx;rcases List.mem_append.1 hx with hx | hx
    · exact Ow k args (n+1) cl hr.2.2 (by omega) hc x hx
    ·have e1:=List.mem_singleton.1 hx
     have:=hr.2.1;omega
   ·rw[if_neg ho]at hr hn ⊢
    exact Ow k args n cl hr.2 (by omega) hc
theorem Ow (k:Nat):∀(l:List Re) (n:Nat) (cl:List Int),Bd l n=true->n+Ai 6 l<=k->(∀g∈cl,1<=g/\g<=(k:Int))->∀g∈Ay l cl,1<=g/\g<=(k:Int)
 | [],n,cl,hr,hn,hc=>by
   unfold Ay;exact hc
 | x::r,n,cl,hr,hn,hc=>by
   unfold Bd at hr;unfold Ai at hn;simp only[Bool.and_eq_true]at hr;unfold Ay;exact Ow k r (n+Af 6 x) (closes x cl) hr.2 (by omega) (Zf k x n cl hr.1 (by omega) hc)
end
mutual
theorem gok_of (k:Nat):∀(e:Re) (n:Nat) (cl:List Int),typed e=true->ranged e n=true->named e cl=true->n+Af 6 e<=k->(∀g∈cl,1<=g/\g<=(k:Int))->gok k e=true
 | .mk o s l h g args,n,cl,ht,hr,hd,hn,hc=>by
   unfold typed at ht;unfold ranged at hr;unfold named at hd;unfold Af at hn;simp only[Bool.and_eq_true]at ht hr hd;unfold gok;simp only[Bool.and_eq_true];refine⟨⟨ht.1,hr.1,?_⟩,?_⟩
   ·by_cases h6:o=6
    ·rw[if_pos (.inl h6)]
     rw[if_pos h6]at hr hn;simp only[Bool.and_eq_true,decide_eq_true_eq]at hr ⊢;have:=hr.2.1;omega
    ·by_cases h9:o=9
     ·rw[if_pos (.inr h9)]
      rw[if_pos h9]at hd;exact decide_eq_true (hc g (by simpa using hd.1))
     · rw[if_neg (by omega)]
   ·by_cases h6:o=6
    ·rw[if_pos h6]at hr hn
     simp only[Bool.and_eq_true,decide_eq_true_eq]at hr;exact gokL_of k args (n+1) cl ht.2 hr.2.2 hd.2 (by omega) hc
    ·rw[if_neg h6]at hr hn
     exact gokL_of k args n cl ht.2 hr.2 hd.2 (by omega) hc
theorem gokL_of (k:Nat):∀(l:List Re) (n:Nat) (cl:List Int),Dk l=true->Bd l n=true->Dj l cl=true->n+Ai 6 l<=k->(∀g∈cl,1<=g/\g<=(k:Int))->gokL k l=true
 | [],n,cl,ht,hr,hd,hn,hc=>by
   unfold gokL;rfl
 | x::r,n,cl,ht,hr,hd,hn,hc=>by
   unfold Dk at ht;unfold Bd at hr;unfold Dj at hd;unfold Ai at hn;simp only[Bool.and_eq_true]at ht hr hd;unfold gokL;simp only[Bool.and_eq_true];exact⟨gok_of k x n cl ht.1 hr.1 hd.1 (by omega) hc,gokL_of k r (n+Af 6 x) (closes x cl) ht.2 hr.2 hd.2 (by omega) (Zf k x n cl hr.1 (by omega) hc)⟩
end
theorem Jx (e:Re) (h:Bf e=true):gok (Af 6 e) e=true:=by
 unfold Bf at h;simp only[Bool.and_eq_true]at h;exact gok_of _ e 0 [] h.1.1.1 h.1.1.2 h.1.2 (by omega) (fun g a=>by cases a)
end MatchMath
namespace ReMem
open Go Go.RowKit MatchMath
theorem ExpTopR_big (e:Re) (v:Value) (w:World) (Q:size e<=100) (h:Bf e=true) (C:bnd e=true) (P:4096<grown e) (y:Ag e) (q:Lies w v e.args):
  Calls Tryz.prog 72 #[Ac v e] w fun r w'=>r=.returned (.tuple #[.agg (ZA0),.int .i64 3])/\qw w w':=by
 have A:=Jx e h;have p:=(Ar e).2 h;have d:=qh (fun W (hw:qw w W)=>Bw e v W (by omega) y (q.stays hw));rw[p]at d;obtain⟨z,D⟩:∃z,min 4097 (grown e)=z:=⟨_,rfl⟩;have R:4096<z:=by omega
 have g:=qh (fun W (hw:qw w W)=>Qi (size e+1) e v W (Nat.lt_succ_self _) C y (q.stays hw));rw[D]at g;obtain⟨va,vc,rfl⟩:=q.shape;obtain⟨i,u,t, -⟩:=TB.two w (xL e va vc) ZL0;unfold Ac at d g ⊢;try simp only[Re.args]
 clear q y C Q h A p D P;go_enter func72,ntmps72;go_wp2_with (first
  | (go_at_call 37
     (refine (d.o _ i.o).mono ?_);rintro x w1 ⟨rfl,a⟩;have j:=qh (Ab i.o a);have n:=qh (u.o.stays a);have c:=qh (t.o.stays a);obtain⟨E,G,I,J,K,L,M,N,O⟩:=c.o.nine;clear a)
  | (go_at_call 95
     (refine (g.o _ j.o).mono ?_);rintro x w2 ⟨rfl,a⟩;have l:=qh (Ab j.o a);have b:=qh (n.o.stays a);have m:=qh (c.o.stays a);clear E G I J K L M N O;obtain⟨E,G,I,J,K,L,M,N,O⟩:=m.o.nine;obtain⟨d0,d1,d2,d3,d4,d5,d6,d7,d8⟩:=b.o.nine;obtain⟨z0,z1,z2,z3,z4,z5,z6,z7,z8⟩:=b.o.free9;clear a))
 have B:=(b.o.put9 (.int .i64 0) (.int .u64 0) (.int .u64 0) (.int .u64 0) (.int .u64 0) (.int .i64 0) (.int .i64 0) (.int .i64 0) (.slice none 0 0)).nine;try unfold put9 at B
 obtain⟨n0,n1,S,T,U,V,X,Y,n8⟩:=B;try simp only[Exit.inBlock,Exit.then]
 refine bodyPost_ret (v:=.tuple #[.agg (ZA0),.int .i64 3]) (by simp[results,results72,go_sem,n0,n1,S,T,U,V,X,Y,n8]) rfl ?_;exact⟨rfl,l.o.trans ((Av _ _ (.int .i64 0) (.int .u64 0) (.int .u64 0) (.int .u64 0) (.int .u64 0) (.int .i64 0) (.int .i64 0) (.int .i64 0) (.slice none 0 0)).below l.o.size (fun k hk e=>by omega))⟩
theorem Nx (e:Re) (v:Value) (w:World) (hs:size e<=100) (q:Bf e=true) (u:bnd e=true) (hg:grown e<=4096) (S:Ag e) (L:Lies w v e.args):
  Calls Tryz.prog 72 #[Ac v e] w fun r w'=>(∃v',r=.returned (.tuple #[Ac v' (Ae e),.int .i64 0])/\LiesB (fun b=>w.heap.size<=b) w' v' (Ae e).args/\Ag (Ae e))/\qw w w':=by
 have K:=Jx e q;have I:=(Ar e).2 q;have m:=qh (fun W (hw:qw w W)=>Bw e v W (by omega) S (L.stays hw));rw[I]at m;obtain⟨z,hz⟩:∃z,min 4097 (grown e)=z:=⟨_,rfl⟩;have a0:z<=4096:=by omega
 have p:=qh (fun W (hw:qw w W)=>Qi (size e+1) e v W (Nat.lt_succ_self _) u S (L.stays hw));rw[hz]at p;have n:=qh (fun W (hw:qw w W)=>Sv _ (size e+1) (by omega) e v W (Nat.lt_succ_self _) K S (L.stays hw));obtain⟨va,vc,rfl⟩:=L.shape;obtain⟨x,Y,X, -⟩:=TB.two w (xL e va vc) ZL0;obtain⟨⟨Q,h,P,O,N,t⟩,M⟩:∃tr,Ae e=tr:=⟨_,rfl⟩;rw[M]at n ⊢;unfold Ac at m p n ⊢;try simp only[Re.args]
 clear L S u hs q K I hz hg M;go_enter func72,ntmps72;go_wp2_with (first
  | (go_at_call 37
     (refine (m.o _ x.o).mono ?_);rintro G w1 ⟨rfl,d⟩;have y:=qh (Ab x.o d);have C:=qh (Y.o.stays d);have j:=qh (X.o.stays d);obtain⟨x0,x1,x2,x3,x4,x5,x6,x7,x8⟩:=j.o.nine;clear d)
  | (go_at_call 95
     (refine (p.o _ y.o).mono ?_);rintro G w2 ⟨rfl,d⟩;have l:=qh (Ab y.o d);have g:=qh (C.o.stays d);have B:=qh (j.o.stays d);clear x0 x1 x2 x3 x4 x5 x6 x7 x8;obtain⟨x0,x1,x2,x3,x4,x5,x6,x7,x8⟩:=B.o.nine;obtain⟨d0,d1,d2,d3,d4,d5,d6,d7,d8⟩:=g.o.nine;obtain⟨z0,z1,z2,z3,z4,z5,z6,z7,z8⟩:=g.o.free9;clear d)
  | (go_at_call 96
     (refine (n.o _ l.o).mono ?_);rintro G w3 ⟨⟨v3,rfl,R,J⟩,d⟩;have A:=qh (Ab l.o d);have i:=qh (g.o.stays d);have T:=qh J;have U:=qh R;obtain⟨E,c3,rfl⟩:∃a c,v3=.slice a t.length c:=R.lies.shape;simp only[Re.op,Re.set,Re.lo,Re.hi,Re.group,Re.args];have HD:=qh l.o.size;clear d0 d1 d2 d3 d4 d5 d6 d7 d8 z0 z1 z2 z3 z4 z5 z6 z7 z8;obtain⟨d0,d1,d2,d3,d4,d5,d6,d7,d8⟩:=i.o.nine;obtain⟨z0,z1,z2,z3,z4,z5,z6,z7,z8⟩:=i.o.free9;clear d R J))
 have en:=(i.o.put9 (.int .i64 Q) (.int .u64 (Sets.Aa h 0:Nat)) (.int .u64 (Sets.Aa h 1:Nat)) (.int .u64 (Sets.Aa h 2:Nat)) (.int .u64 (Sets.Aa h 3:Nat)) (.int .i64 P) (.int .i64 O) (.int .i64 N) (.slice E t.length c3)).nine;try unfold put9 at en
 obtain⟨n0,n1,n2,n3,n4,n5,n6,n7,n8⟩:=en;try simp only[Exit.inBlock,Exit.then]
 refine bodyPost_ret (v:=.tuple #[.agg (WA Q h P O N (.slice E t.length c3)),.int .i64 0]) (by simp[results,results72,go_sem,n0,n1,n2,n3,n4,n5,n6,n7,n8]) rfl ?_;refine⟨⟨.slice E t.length c3,rfl,?_,T.o⟩,A.o.trans ((Av _ _ (.int .i64 Q) (.int .u64 (Sets.Aa h 0:Nat)) (.int .u64 (Sets.Aa h 1:Nat)) (.int .u64 (Sets.Aa h 2:Nat)) (.int .u64 (Sets.Aa h 3:Nat)) (.int .i64 P) (.int .i64 O) (.int .i64 N) (.slice E t.length c3)).below A.o.size (fun k hk e=>by omega))⟩;have V:=(U.o.mono (D:=fun b=>w.heap.size+2<=b) (fun b _ u=>by have h1:w2.heap.size<=b:=u;have R:=g.o.lt;omega));exact (V.chg (Av _ _ (.int .i64 Q) (.int .u64 (Sets.Aa h 0:Nat)) (.int .u64 (Sets.Aa h 1:Nat)) (.int .u64 (Sets.Aa h 2:Nat)) (.int .u64 (Sets.Aa h 3:Nat)) (.int .i64 P) (.int .i64 O) (.int .i64 N) (.slice E t.length c3)) (fun b (u:w.heap.size+2<=b) (e:b=w.heap.size+1)=>by omega)).mono (fun b _ (u:w.heap.size+2<=b)=>by omega)
end ReMem
namespace ReMem
open Go Go.RowKit MatchMath
def RCode (k:Nat) (w0:World) (N:Nat):Prop:=∀(t:Re) (tv v:Value) (m:Nat) (w:World),size t<N->gok k t=true->Ag t->Lies w0 tv t.args->qw w0 w->IRow w w0.heap.size v m->m+3*size t<=1048576->
 Calls Tryz.prog 73 #[v,Ac tv t] w fun r w'=>∃v',r=.returned v'/\IRow w' w0.heap.size v' (m+Ah t)/\IC w0.heap.size w w'
theorem Ck {args:List Re} {q:Nat} {t:Re} (h:args[q]? =some t):Ak (args.take (q+1))=Ak (args.take q)+Ah t:=by
 rw[List.take_add_one,h,Hy];simp[Ak]
theorem Fd (args:List Re) (q:Nat):Ak (args.take q)<=Ak args:=by
 have h:=Hy (args.take q) (args.drop q);rw[List.take_append_drop]at h;omega
theorem Bv (k:Nat):∀(args:List Re),gokL k args=true->∀(q:Nat) (t:Re),args[q]? =some t->Ak (args.take q)+2*q+3*size t<=3*sizes args
 | [],_,q,t,h=>by simp at h
 |x::r,hg,0,t,h=>by
  obtain rfl:x=t:=by simpa using h
  simp[Ak,sizes];omega
 |x::r,hg,q+1,t,h=>by
  unfold gokL at hg;rw[Bool.and_eq_true]at hg;have a:=Bv k r hg.2 q t (by simpa using h);have b:=Cf k x hg.1;rw[List.take_succ_cons,Ak,sizes];omega
theorem refAltC_any (k:Nat) (C:World) (N:Nat) (hp:RCode k C N) (args:List Re) (av v:Value) (m:Nat) (w:World) (g:2<=args.length) (e3:∀t∈args,size t<N) (Y:gokL k args=true) (hl:Lies C av args) (hb:qw C w) (hi:IRow w C.heap.size v m) (hm:m+3*(sizes args+1)<=1048576):
  Calls Tryz.prog 97 #[v,av] w fun r w'=>∃v',r=.returned v'/\IRow w' C.heap.size v' (m+Ak args+2*(args.length-1))/\IC C.heap.size w w':=by
 obtain⟨aa,ac,vs,rfl,⟨g1,f9⟩,ho⟩:=hl.opened;obtain⟨A,hA⟩:∃A,args.length=A+1:=⟨args.length-1,by omega⟩;have HO:=qh ho;have I:=qh hA;have b5:Hid (1<=A):=by show _<=_;omega
 have HP:=qh (fun t tv v n W (E:t∈args)=>hp t tv v n W (e3 t E) (Bk Y E));have b0:=qh (Ji k args Y);have b7:=qh Y;have b9:=qh (fun t (E:t∈args)=>And.intro (Hl E) (Cf k t (Bk Y E)));have HB:=qh hb;have HI:=qh hi;have HM:=qh hm;have g3:=Bc args;have g7:(A:Int)<=1048576:=by omega
 have g8:(m:Int)<=1048576:=by omega
 have e6:Hid (A<=1048576):=by show _<=_;omega
 obtain⟨la,lc,rfl⟩:=hi.form;rw[show args.length-1=A by omega];rw[hA];clear hl ho hp e3 Y hb hi hm g3 g hA g1 f9;go_enter func97,ntmps97;go_wp2
 go_loopw [0,5,6] (fun lv jv ix wr=>∃(q u:Nat) (js:List Int) (lv' jv':Value),q<=A/\ix=.int .i64 q/\lv'=lv/\jv'=jv/\Hid (u=m+Ak (args.take q)+2*q)/\IRow wr C.heap.size lv' u/\JRow wr w.heap.size jv' js u/\Hid (js.length=q)/\IC C.heap.size w wr) (fun _ _ ix _=>A-(intOf ix).toNat)
 case atStart=>exact⟨0,m,[],_,_,Nat.zero_le _,rfl,rfl,rfl,(by show _=_;simp[Ak]),HI.o,JRow.nil _ _ _,rfl,IC.refl _ _⟩
 case round=>
  obtain⟨q,u,js,lv,jv,hq,rfl,rfl,rfl,HU,p,x,M,l⟩:=hrel;have L:=qh p;have R:=qh x;have K:=qh l;have d9:Hid (u+2<=2097152):=by show _<=_;have h:=HU.out;have g:=Fd args q;have P:=b0.o;have h4:=HM.o;have h5:=I.o;omega
  have h0:(u:Int)<=2097152:=by have:=d9.o;omega
  have Q:Hid (qw C wr):=HB.o.trans l.below;have b1:Hid (w.heap.size<=wr.heap.size):=l.below.size;obtain⟨oa,oc,rfl⟩:=p.form;obtain⟨ja,jc,rfl⟩:∃a c,jv=.slice a q c:=by have:=x.form;rwa [M.out]at this
  clear p x l;by_cases hqt:q<A
  ·have e2:(q:Int)< (A:Int):=by omega
   have HQ:=qh hqt;have a8:=qh HB.o.size
   go_upto_region 7 with (first
    | (at_builtin
       refine Cr _ rfl _ _ rfl C.heap.size (.slice oa u oc) u (by rfl) L.o [.int .i64 2,.int .u64 0,.int .u64 0,.int .u64 0,.int .u64 0,.int .i64 ((u:Int)+1),.int .i64 0] rfl (by simp[Value.oneCell']) _ rfl (by rfl) (by have:=d9.o;omega) (by have h:=a8.o;have g:=b1.o;omega) ?_;intro v1 w1 h e0;have e8:=qh h;have a9:=qh e0;obtain⟨a1,c1,rfl⟩:=h.form;clear h e0))
   have a4:q<args.length:=by have:=I.o;omega
   obtain⟨t,tv,b,off,E,hv,e1,⟨x0,x1,x2,x3,x4,x5,x6,x7,x8⟩,a0,X,hm⟩:=(HO.o.stays (Q.o.trans a9.o.below)).at a4;subst e1;have B:=((HO.o.sub q t tv E hv));have c9:=qh (b9.o t hm);have S:=qh (fun W v n (hw:qw C W) (hi:IRow W C.heap.size v n) (hn:n+3*size t<=1048576)=>HP.o t tv v n W hm X B hw hi hn);have V:=qh (Ck E);have f3:=qh (Fd args (q+1));obtain⟨g5,g6,rfl⟩:=a0.shape;unfold Ac at S;obtain⟨u2,a5⟩:∃y,u+1+Ah t=y:=⟨_,rfl⟩;have d:=qh a5;have G:Hid (u2+1<=2097152):=by show _<=_;have h:=HU.out;have g:=V.o;have P:=b0.o;have h4:=HM.o;have h5:=I.o;have h6:=f3.o;omega
   have e4:(u2:Int)<=2097152:=by have:=G.o;omega
   have T:Hid (u+1+3*size t<=1048576):=by
    show _<=_;have h:=HU.out;have P:=Bv k args b7.o q t E;have h4:=HM.o;omega
   clear a4 a0 X hm E hv B a5
   go_upto_region 8 with (first
    | (go_at_call 73
       (refine (S.o _ _ (u+1) (Q.o.trans a9.o.below) e8.o T.o).mono ?_);rintro f7 w2 ⟨v2,rfl,g,O⟩;rw[d.o]at g;have a6:=qh g;have J:=qh (a9.o.trans O);obtain⟨a2,c2,rfl⟩:=g.form;have D:=qh ((R.o.ic J.o).up (show u<=u2+1 by have:=d.o;omega));have f5:Hid (w.heap.size<=w2.heap.size):=Nat.le_trans b1.o J.o.below.size;clear g O x0 x1 x2 x3 x4 x5 x6 x7 x8))
   go_upto_region 9 with (first
    | (at_builtin
       refine Xw _ rfl _ _ rfl w.heap.size (.slice ja q jc) js (u2+1) (by rfl) D.o f5.o (u2:Int) (u2+1) ql ⟨by omega,by omega⟩ _ rfl (by rfl) (by have h:=M.out;have g:=HQ.o;have P:=e6.o;omega) ?_;intro v3 w3 P b2;have f1:=qh P;have e9:=qh (a6.o.jumps D.o b2);have b6:=qh (ic_jumps (K.o.trans J.o) D.o a8.o b2);obtain⟨a3,c3,rfl⟩:∃a c,v3=.slice a (q+1) c:=by have:=P.form;rw[List.length_append,M.out]at this;exact this
       have f6:Hid (w.heap.size<=w3.heap.size):=b6.o.below.size;clear P b2))
   go_upto_region 10 with (first
    | (at_builtin
       refine Cr _ rfl _ _ rfl C.heap.size (.slice a2 u2 c2) u2 (by rfl) e9.o [.int .i64 3,.int .u64 0,.int .u64 0,.int .u64 0,.int .u64 0,.int .i64 0,.int .i64 0] rfl (by simp[Value.oneCell']) _ rfl (by rfl) (by have:=G.o;omega) (by have h:=a8.o;have g:=f6.o;omega) ?_;intro v4 w4 h4 b3;have e7:=qh (b6.o.trans b3);have f2:=qh (f1.o.ic b3);obtain⟨g4,c4,rfl, -⟩:=h4.spot (k:=u) (by have:=d.o;omega);have f0:=qh h4;obtain⟨-, -,hx,hz, -, -⟩:=h4.spot' (k:=u) (by have:=d.o;omega);obtain⟨s6,c6⟩:=hx 6 (by omega);have z6:=hz 6 (by omega);clear h4 b3 hx hz))
   have g9:(u:Int)< (u2:Int)+1:=by have:=d.o;omega
   go_wp2;go_roundw
   case rel=>
    have h6:=f0.o.spot' (k:=u) (by have:=d.o;omega);exact⟨q+1,u2+1,js++ [(u2:Int)],_,_,HQ.o,by go_num,rfl,rfl,(by show _=_;have h:=HU.out;have g:=V.o;have P:=d.o;omega),h6.2.2.2.2.1 _ _,f2.o.ic (h6.2.2.2.2.2 _ _),(by show _=_;simp[M.out]),e7.o.trans (h6.2.2.2.2.2 _ _)⟩
   case measure=>have:=HQ.o;simp[intOf];omega
  ·have e2:¬(q:Int)< (A:Int):=by omega
   obtain rfl:A=q:=by omega
   have a4:A<args.length:=by have:=I.o;omega
   obtain⟨t,tv,b,off,E,hv,e1,⟨x0,x1,x2,x3,x4,x5,x6,x7,x8⟩,a0,X,hm⟩:=(HO.o.stays Q.o).at a4;subst e1;have B:=((HO.o.sub A t tv E hv));have c9:=qh (b9.o t hm);have S:=qh (fun W v n (hw:qw C W) (hi:IRow W C.heap.size v n) (hn:n+3*size t<=1048576)=>HP.o t tv v n W hm X B hw hi hn);have V:Hid (Ak args=Ak (args.take A)+Ah t):=by
    have h:=Ck E;rw[List.take_of_length_le (by have:=I.o;omega)]at h;exact h
   have T:Hid (u+3*size t<=1048576):=by
    show _<=_;have h:=HU.out;have P:=Bv k args b7.o A t E;have h4:=HM.o;omega
   obtain⟨g5,g6,rfl⟩:=a0.shape;unfold Ac at S;obtain⟨U,a5⟩:∃y,u+Ah t=y:=⟨_,rfl⟩;have d:=qh a5;have G:Hid (U+1<=2097152):=by show _<=_;have h:=HU.out;have g:=V.o;have P:=b0.o;have h4:=HM.o;have h5:=I.o;omega
   have e4:(U:Int)<=2097152:=by have:=G.o;omega
   have f8:(A:Int)< (A:Int)+1:=by omega
   have f4:Hid (0<U):=by show _<_;have h:=HU.out;have g:=d.o;have P:=b5.o;omega
   clear a4 a0 X hm E hv B a5 hq hqt
   go_upto_region 12 with (first
    | (go_at_call 73
       (refine (S.o _ _ u Q.o L.o T.o).mono ?_);rintro f7 w2 ⟨v2,rfl,g,O⟩;rw[d.o]at g;have J:=qh (K.o.trans O);obtain⟨g2,c2,rfl, -⟩:=g.spot (k:=0) f4.o;have a6:=qh g;have D:=qh ((R.o.ic O).up (show u<=U by have:=d.o;omega));clear g O x0 x1 x2 x3 x4 x5 x6 x7 x8))
   obtain⟨jg,h8,zz,ej, -, -⟩:=D.o.at (j:=0) (by have h:=M.out;have g:=b5.o;omega);injection ej with ej1 ej2 ej3;subst ej1 ej3;have a7:Hid (JRow w2 w.heap.size (.slice (some ⟨jg,0,none⟩) A jc) js U):=D.o;clear ej2 e2 f8;go_wp2
   go_loopw [8] (fun ix b4=>∃i:Nat,i<=A/\ix=.int .i64 i/\IRow b4 C.heap.size (.slice (some ⟨g2,0,none⟩) U c2) U/\JRow b4 w.heap.size (.slice (some ⟨jg,0,none⟩) A jc) js U/\IC C.heap.size w b4) (fun ix _=>A-(intOf ix).toNat)
   case atStart=>exact⟨0,Nat.zero_le _,rfl,a6.o,a7.o,J.o⟩
   case round=>
    clear a6 D a7 J L R K b1 Q;obtain⟨i,hi,rfl,p,x,l⟩:=hrel;have L:=qh p;have R:=qh x;have K:=qh l;by_cases hit:i<A
    ·have g0:(i:Int)< (A:Int):=by omega
     have b8:=qh hit;obtain⟨z,hz,cz⟩:=x.at' M.out hit;obtain⟨-, -,hx,e5, -, -⟩:=p.spot' (k:=z) hz;obtain⟨s5,c5⟩:=hx 5 (by omega);have z5:=e5 5 (by omega);have h7:(z:Int)< (U:Int):=by omega
     have HZ:=qh hz;clear hx e5 p x l hi hit hz;go_wp2;go_roundw
     case rel=>
        have h6:=L.o.spot' (k:=z) HZ.o;exact⟨i+1,b8.o,by go_num,h6.2.2.2.2.1 _ _,R.o.ic (h6.2.2.2.2.2 _ _),K.o.trans (h6.2.2.2.2.2 _ _)⟩
     case measure=>have:=b8.o;simp[intOf];omega
    ·have g0:¬(i:Int)< (A:Int):=by omega
     clear p x l hi hit;go_wp2;go_ret;refine⟨_,rfl,?_,K.o⟩;have e:m+Ak args+2*A=U:=by have h:=HU.out;have g:=V.o;have P:=d.o;omega
     rw[e];exact L.o
end ReMem
end Go.Proofs.YtjefcpjciogcjaaGreatDoor
