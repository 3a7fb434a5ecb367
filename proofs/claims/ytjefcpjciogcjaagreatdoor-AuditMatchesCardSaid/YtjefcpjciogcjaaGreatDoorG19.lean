/- Lemmas for the walk of the law, in 4 parts. No condition beyond what each states. -/
import Derived.Test.YtjefcpjciogcjaaGreatDoorG4
import Derived.Deep.CutBlock
import Derived.Deep.DeepCutAuto
import Derived.Test.YtjefcpjciogcjaaGreatDoorG18
import Derived.Test.YtjefcpjciogcjaaGreatDoorG15
import Derived.Test.YtjefcpjciogcjaaGreatDoorG7
import Derived.Test.YtjefcpjciogcjaaGreatDoorG5
import Derived.Test.YtjefcpjciogcjaaGreatDoorG2
namespace Go.Proofs.YtjefcpjciogcjaaGreatDoor
set_option maxRecDepth 100000
set_option linter.unusedVariables false
set_option maxHeartbeats 40000000
open Tryz
namespace ReMem
open Go Go.RowKit MatchMath Strs
theorem node_any (W0:World) (cb J:Nat) (q7:W0.heap.size<=cb) (q9:W0.heap.size<=J) (A:cb≠J):∀(n:Nat) (e:Re) (v:Value) (sh M na:Bool) (nd j:Nat) (u:List Int) (mn:Nat) (w:World),size e<n->nd+size e<=4096->j<=nd->mn<=nd->Ag e->Lies W0 v e.args->qw W0 w->Chk w cb J sh M na nd j->Ho w J mn u->
  Calls Tryz.prog 79 #[.pointer (some ⟨cb,0,none⟩),Ac v e] w fun r w'=>r=.returned (.int .i64 (levels e:Nat))/\Chk w' cb J (sh|| !typed e) (M|| !ranged e j) (na|| !Kb e j u) ((nd+size e:Nat):Int) ((j+Af 6 e:Nat):Int)/\(∃mn',mn'<=mn+size e/\Ho w' J mn' (Ia e j u))/\Chg (fun b=>b=cb\/b=J) w w':=by
 intro n
 induction n with
 | zero=>intro e v sh M na nd j u mn w hn;omega
 |succ n ih=>
  intro e v sh M na nd j u mn w hn hs q8 r0 i5 hl n3 a4 I;obtain⟨o,p,l,h,g,args⟩:=e;obtain⟨a,c,vs,rfl,⟨p9,p6⟩,ho⟩:=hl.opened;have IH:=qh (fun t v sh M na nd j u mn W (Y:t∈args)=>ih t v sh M na nd j u mn W (Nat.lt_of_lt_of_le (Bo (e:=.mk o p l h g args) Y) (Nat.le_of_lt_succ hn)));clear ih hn hl;have a3:Hid (size (.mk o p l h g args)=1+sizes args):=by show _=_;rw[size]
  have r1:nd+1+sizes args<=4096:=by have:=a3.o;omega
  have o2:Hid (typed (.mk o p l h g args)=(shaped (.mk o p l h g args)&&Dk args)):=by show _=_;rw[typed]
  have o1:Hid (ranged (.mk o p l h g args) j=((if o=5 then counted l h else true)&&(if o=6 then decide (g=(j:Int)+1)&&Bd args (j+1) else Bd args j))):=by show _=_;rw[ranged]
  have o0:Hid (Kb (.mk o p l h g args) j u=((if o=9 then u.contains g else true)&&Cn args (if o=6 then j+1 else j) u)):=by show _=_;rw[Kb]
  have n8:Hid (Af 6 (.mk o p l h g args)=(if o=6 then 1 else 0)+Ai 6 args):=by show _=_;rw[Af]
  have n9:Hid (levels (.mk o p l h g args)=Bm args+1):=by show _=_;rw[levels]
  have n7:Hid (Ia (.mk o p l h g args) j u=if o=6 then (if g=(j:Int)+1 then Au args (j+1) u++ [(j:Int)+1] else Au args (j+1) u) else Au args j u):=by show _=_;rw[Ia]
  have p3:=qh (fun W (m1:args.length<=9223372036854775807)=>shaped_any o l h g p args a c W m1);unfold Ac;simp only[Re.op,Re.set,Re.lo,Re.hi,Re.group,Re.args]at*;have m1:args.length<=9223372036854775807:=Nat.le_trans p9 p6;have HO:=qh ho;have o3:=qh n3;have f2:=qh a4;have K:=qh I;have h8:W0.heap.size<=w.heap.size:=n3.size;have q0:cb<w.heap.size:=a4.lt;have q3:J<w.heap.size:=by obtain⟨D,h1, -⟩:=I;exact Ws h1
  have j1: -9223372036854775808<=g:=i5.2.2.2.1;have j2:g<=9223372036854775807:=i5.2.2.2.2;clear ho hs i5 n3 I;generalize size (.mk o p l h g args)=SZ at*;generalize typed (.mk o p l h g args)=TY at*;generalize ranged (.mk o p l h g args) j=RA at*;generalize Kb (.mk o p l h g args) j u=NA at*;generalize Af 6 (.mk o p l h g args)=CO at*;generalize levels (.mk o p l h g args)=LV at*;generalize Ia (.mk o p l h g args) j u=CL at*;generalize shaped (.mk o p l h g args)=S at*;generalize Sets.Aa p 0=x0 at*;generalize Sets.Aa p 1=x1 at*;generalize Sets.Aa p 2=x2 at*;generalize Sets.Aa p 3=x3 at*;have q4:0<=(nd:Int):=by omega
  have q5:(nd:Int)<=4096:=by omega
  have q1:0<=(j:Int):=by omega
  have q2:(j:Int)<=4096:=by omega
  obtain⟨c0,c1,c2,c3,c4,c6,cz,c9⟩:=a4;have z0:=cz 0;have z1:=cz 1;have z2:=cz 2;have z3:=cz 3;have z4:=cz 4;clear cz;obtain⟨h4,Q⟩:∃x,Hid (x=(sh|| !S)):=⟨_,rfl⟩;obtain⟨O,G⟩:∃x,Hid (x=(M|| !(if o=5 then counted l h else if o=6 then decide (g=(j:Int)+1) else true))):=⟨_,rfl⟩;obtain⟨U,E⟩:∃x,Hid (x=(na|| !(if o=9 then u.contains g else true))):=⟨_,rfl⟩;obtain⟨d,y⟩:∃x,Hid (x=if o=6 then j+1 else j):=⟨_,rfl⟩;have q6:d<=nd+1:=by have:=y.out;split at this <;> omega
  have a8:Hid ((h4|| !Dk args)=(sh|| !TY)):=by show _=_;rw[Q.out,o2.o,Ey]
  have a9:Hid ((O|| !Bd args d)=(M|| !RA)):=by
   show _=_;rw[G.out,o1.o,y.out];by_cases h5:o=5
   ·subst h5
    simp[Bool.or_assoc]
   ·by_cases N:o=6
    ·subst N
     simp[Bool.or_assoc]
    · simp[h5,N]
  have b0:Hid ((U|| !Cn args d u)=(na|| !NA)):=by
   show _=_;rw[E.out,o0.o,y.out,Ey]
  have b1:Hid (d+Ai 6 args=j+CO):=by
   show _=_;rw[y.out,n8.o];split <;> omega
  have L:Hid (CL=if o=6 then (if g=(j:Int)+1 then Au args d u++ [(j:Int)+1] else Au args d u) else Au args d u):=by
   show _=_;rw[n7.o,y.out];split
   · rfl
   · rfl
  have b2:Hid (o=6->(d:Int)=(j:Int)+1):=fun h=>by have:=y.out;rw[if_pos h]at this;omega
  clear o1 o0 n8 n7 o2;obtain⟨QB,m8⟩:∃x,u.contains g=x:=⟨_,rfl⟩;rw[m8]at E;have i8:=qh m8;clear m8;cases sh with
  |true=>
   go_enter func79,ntmps79
   go_upto_block 0 with fail
   go_cut [] (fun wx=>Chk wx cb J h4 O U ((nd:Int)+1) (d:Int)/\Ho wx J mn u/\Chg (fun b=>b=cb\/b=J) w wx/\Box9 wx w.heap.size o x0 x1 x2 x3 l h g (.slice a args.length c))
   case first=>
    rcases (by omega:o=5\/o=6\/o=9\/(o≠5/\o≠6/\o≠9)) with rfl | rfl | rfl | ⟨h5,N,h9⟩
    ·have g6:Hid (O=(M|| !decide (0<=l/\l<=64/\(h= -1\/l<=h/\h<=64)))):=by have:=G.out;rw[if_pos rfl]at this;exact this
     have a6:Hid (U=na):=by have:=E.out;rw[if_neg (by decide),Bool.not_true,Bool.or_false]at this;exact this
     have a7:Hid (d=j):=by have:=y.out;rw[if_neg (by decide)]at this;exact this
     clear G E y a8 a9 b0 b1 L b2;cases M
     all_goals
      by_cases V:h= -1
      ·have m6:(h != -1)=false:=by simp[V]
       have j5:=qh V;clear V;go_wp2_with fail
       all_goals
        go_meet
        have V:=j5.o;exact⟨((((f2.o.set3 _).set0 _).set1 _).chg (Chg.alloc (fun _=>False) _ _) (fun h=>h)).cast (by rw[Q.out];simp) (by rw[g6.o,Bool.eq_iff_iff];simp <;> omega) (by rw[a6.o]) rfl (by rw[a7.o]),K.o.chg (((((Chg.refl (fun b=>b=cb) w).set (cb:=cb) _ rfl 3 _).set (cb:=cb) _ rfl 0 _).set (cb:=cb) _ rfl 1 _).trans (Chg.alloc (fun _=>False) _ _) (fun k _ h=>h.elim)) (Ne.symm A),((((Chg.refl _ w).set (cb:=cb) _ (.inl rfl) 3 _).set (cb:=cb) _ (.inl rfl) 0 _).set (cb:=cb) _ (.inl rfl) 1 _).trans (Chg.alloc (fun _=>False) _ _) (fun k _ h=>h.elim),Box9.newS _ _ _ _ _ _ _ _ _ _ _ _ (by simp)⟩
      ·have m6:(h != -1)=true:=by simp[V]
       go_wp2_with fail
       all_goals
        go_meet
        exact⟨((((f2.o.set3 _).set0 _).set1 _).chg (Chg.alloc (fun _=>False) _ _) (fun h=>h)).cast (by rw[Q.out];simp) (by rw[g6.o,Bool.eq_iff_iff];simp <;> omega) (by rw[a6.o]) rfl (by rw[a7.o]),K.o.chg (((((Chg.refl (fun b=>b=cb) w).set (cb:=cb) _ rfl 3 _).set (cb:=cb) _ rfl 0 _).set (cb:=cb) _ rfl 1 _).trans (Chg.alloc (fun _=>False) _ _) (fun k _ h=>h.elim)) (Ne.symm A),((((Chg.refl _ w).set (cb:=cb) _ (.inl rfl) 3 _).set (cb:=cb) _ (.inl rfl) 0 _).set (cb:=cb) _ (.inl rfl) 1 _).trans (Chg.alloc (fun _=>False) _ _) (fun k _ h=>h.elim),Box9.newS _ _ _ _ _ _ _ _ _ _ _ _ (by simp)⟩
    ·have g0:Hid (O=(M|| !decide (g=(j:Int)+1))):=by have:=G.out;rw[if_neg (by decide),if_pos rfl]at this;exact this
     have g2:Hid (U=na):=by have:=E.out;rw[if_neg (by decide),Bool.not_true,Bool.or_false]at this;exact this
     have g4:Hid (d=j+1):=by have:=y.out;rw[if_pos rfl]at this;exact this
     clear G E y a8 a9 b0 b1 L b2;cases M
     all_goals
      go_wp2_with fail
      go_region
      all_goals
       go_wp2_with fail
       go_meet
       exact⟨((((((f2.o.set3 _).set0 _).set4 _).set1 _).chg (Chg.alloc (fun _=>False) _ _) (fun h=>h)).drew).cast (by rw[Q.out];simp) (by rw[g0.o];(try rw[bne_dec]);simp) (by rw[g2.o]) rfl (by rw[g4.o];omega),(K.o.chg ((((((Chg.refl (fun b=>b=cb) w).set (cb:=cb) _ rfl 3 _).set (cb:=cb) _ rfl 0 _).set (cb:=cb) _ rfl 4 _).set (cb:=cb) _ rfl 1 _).trans (Chg.alloc (fun _=>False) _ _) (fun k _ h=>h.elim)) (Ne.symm A)).drew,((((((Chg.refl _ w).set (cb:=cb) _ (.inl rfl) 3 _).set (cb:=cb) _ (.inl rfl) 0 _).set (cb:=cb) _ (.inl rfl) 4 _).set (cb:=cb) _ (.inl rfl) 1 _).trans (Chg.alloc (fun _=>False) _ _) (fun k _ h=>h.elim)).drew,(Box9.newS _ _ _ _ _ _ _ _ _ _ _ _ (by simp)).drew⟩
    ·have g1:Hid (O=M):=by have:=G.out;rw[if_neg (by decide),if_neg (by decide),Bool.not_true,Bool.or_false]at this;exact this
     have g3:Hid (U=(na|| !QB)):=by have:=E.out;rw[if_pos rfl]at this;exact this
     have g5:Hid (d=j):=by have:=y.out;rw[if_neg (by decide)]at this;exact this
     clear G E y a8 a9 b0 b1 L b2;cases na
     all_goals
      have p7:=(K.o.chg ((((Chg.refl (fun b=>b=cb) w).set (cb:=cb) _ rfl 3 (.int .i64 ((nd:Int)+1))).set (cb:=cb) _ rfl 0 (.bool true)).trans (Chg.alloc (fun _=>False) _ (.cells #[.int .i64 9,.int .u64 x0,.int .u64 x1,.int .u64 x2,.int .u64 x3,.int .i64 l,.int .i64 h,.int .i64 g,.slice a args.length c] 28)) (fun k _ h=>h.elim)) (Ne.symm A)).look i8.o j1 j2;have p8:=(K.o.chg ((((Chg.refl (fun b=>b=cb) w).set (cb:=cb) _ rfl 3 (.int .i64 ((nd:Int)+1))).set (cb:=cb) _ rfl 0 (.bool true)).trans (Chg.alloc (fun _=>False) _ (.cells #[.int .i64 9,.int .u64 x0,.int .u64 x1,.int .u64 x2,.int .u64 x3,.int .i64 l,.int .i64 h,.int .i64 g,.slice a args.length c] 28)) (fun k _ h=>h.elim)) (Ne.symm A)).drew.look i8.o j1 j2;go_wp2_with fail
      go_region
      all_goals
       go_wp2_with fail
       go_meet
       exact⟨(((((f2.o.set3 _).set0 _).set2 _).chg (Chg.alloc (fun _=>False) _ _) (fun h=>h)).drew).cast (by rw[Q.out];simp) (by rw[g1.o]) (by rw[g3.o];simp) rfl (by rw[g5.o]),(K.o.chg (((((Chg.refl (fun b=>b=cb) w).set (cb:=cb) _ rfl 3 _).set (cb:=cb) _ rfl 0 _).set (cb:=cb) _ rfl 2 _).trans (Chg.alloc (fun _=>False) _ _) (fun k _ h=>h.elim)) (Ne.symm A)).drew,(((((Chg.refl _ w).set (cb:=cb) _ (.inl rfl) 3 _).set (cb:=cb) _ (.inl rfl) 0 _).set (cb:=cb) _ (.inl rfl) 2 _).trans (Chg.alloc (fun _=>False) _ _) (fun k _ h=>h.elim)).drew,(Box9.newS _ _ _ _ _ _ _ _ _ _ _ _ (by simp)).drew⟩
    ·have p4:(o==5)=false:=by simp[h5]
     have m0:(o==6)=false:=by simp[N]
     have p5:(o==9)=false:=by simp[h9]
     have N5:=qh h5;have N6:=qh N;have N9:=qh h9;clear h5 N h9;go_wp2_with fail
     go_meet
     exact⟨(((f2.o.set3 _).set0 _).chg (Chg.alloc (fun _=>False) _ _) (fun h=>h)).cast (by rw[Q.out];simp) (by rw[G.out,if_neg N5.o,if_neg N6.o];simp) (by rw[E.out,if_neg N9.o];simp) rfl (by rw[y.out,if_neg N6.o]),K.o.chg ((((Chg.refl (fun b=>b=cb) w).set (cb:=cb) _ rfl 3 _).set (cb:=cb) _ rfl 0 _).trans (Chg.alloc (fun _=>False) _ _) (fun k _ h=>h.elim)) (Ne.symm A),(((Chg.refl _ w).set (cb:=cb) _ (.inl rfl) 3 _).set (cb:=cb) _ (.inl rfl) 0 _).trans (Chg.alloc (fun _=>False) _ _) (fun k _ h=>h.elim),Box9.newS _ _ _ _ _ _ _ _ _ _ _ _ (by simp)⟩
   case rest=>
    obtain⟨e3,X,i3,e0⟩:=hcut;have f6:=qh e3;have j7:=qh X;have j4:=qh i3;have f3:=qh e0;obtain⟨d0,d1,d2,d3,d4,d5,d6,d7,d8,d9⟩:=e0;obtain⟨b4,b5,b6,b7,b8,b9,cz,i9⟩:=e3;clear X i3 cz;have o5:(d:Int)<=4097:=by omega
    have o4:0<=(d:Int):=by omega
    go_wp2_with fail
    go_loopw [7,119] (fun m i wr=>∃q mq:Nat,q<=args.length/\i=.int .i64 q/\m=.int .i64 (Bm (args.take q):Nat)/\Chk wr cb J (h4|| !Dk (args.take q)) (O|| !Bd (args.take q) d) (U|| !Cn (args.take q) d u) ((nd+1+sizes (args.take q):Nat):Int) ((d+Ai 6 (args.take q):Nat):Int)/\mq<=mn+sizes (args.take q)/\Ho wr J mq (Au (args.take q) d u)/\Chg (fun b=>b=cb\/b=J) w wr/\Box9 wr w.heap.size o x0 x1 x2 x3 l h g (.slice a args.length c)) (fun _ i _=>args.length-(intOf i).toNat)
    case atStart=>exact⟨0,mn,Nat.zero_le _,rfl,rfl,f6.o.cast (by rw[List.take_zero,Dk];(try simp)) (by rw[List.take_zero,Bd];(try simp)) (by rw[List.take_zero,Cn];(try simp)) (by rw[List.take_zero,sizes];omega) (by rw[List.take_zero,Ai];omega),by omega,j7.o,j4.o,f3.o⟩
    case round=>
     clear b4 b5 b6 b7 b8 b9 d0 d1 d2 d3 d4 d5 d6 d7 d8;obtain⟨q,mq,hq,rfl,rfl,a4,m7,I,hc,i0⟩:=hrel;have a5:=qh a4;have a2:=qh I;have a1:=qh hc;have j8:=qh i0;have e5:=qh (o3.o.trans (hc.below (B:=W0.heap.size) h8 (fun k hk e=>by omega)));have m4:=Ig (args.take q);have m5:=Cz args q;have o8:((Bm (args.take q):Nat):Int)<=4096:=by omega
     have o7:0<=((Bm (args.take q):Nat):Int):=by omega
     have m2:=By 6 (args.take q);obtain⟨d0,d1,d2,d3,d4,d5,d6,d7,d8,d9⟩:=i0;obtain⟨b4,b5,b6,b7,b8,b9,cz,i9⟩:=a4;clear I hc cz;by_cases hlt:q<args.length
     ·obtain⟨t,v,b,off,Y,hv,rfl,⟨k0,k1,k2,k3,k4,k5,k6,k7,k8⟩, -,i6,hm⟩:=(HO.o.stays e5.o).at hlt
      have f0:=HO.o.sub q t v Y hv;have m9:(q:Int)< (args.length:Int):=by omega
      have n4:=Ch Y;have n5:=Cz args (q+1);have g7:=qh (fun (sh M na:Bool) W=>IH.o t v sh M na (nd+1+sizes (args.take q)) (d+Ai 6 (args.take q)) (Au (args.take q) d u) mq W hm (by omega) (by omega) (by omega) i6 f0);have b3:=qh (Ch Y);have h3:=qh (Tw Y);have h0:=qh (Ff (n:=d) Y);have g9:=qh (Qf d u Y);have f9:=qh (Ec (k:=6) Y);have g8:=qh (Mq Y);have f7:=qh (Oa d u Y);unfold Ac at g7;obtain⟨va,vc,rfl⟩:=f0.shape;have n2:=Jm t;have p1:((levels t:Nat):Int)<=4096:=by omega
      have p0:0<=((levels t:Nat):Int):=by omega
      clear Y hv i6 f0 hm n4 n5 n2 m4 m5 m2 b4 b5 b6 b7 b8 b9
      go_wp2_with (go_at_call 79
                   (refine (g7.o _ _ _ _ (e5.o.alloc e5.o.size _) (a5.o.chg (Chg.alloc (fun _=>False) _ _) (fun h=>h)) (a2.o.chg (Chg.alloc (fun _=>False) _ _) (fun h=>h))).mono ?_);rintro e4 w4 ⟨rfl,e2,⟨n6,o9,i7⟩,e9⟩;have f5:=qh e2;have j6:=qh i7;have j3:=qh (a1.o.trans ((Chg.alloc (fun b=>b=cb\/b=J) wr _).trans e9 (fun k _ hk=>hk)) (fun k _ hk=>hk));have j9:=qh ((j8.o.chg (Chg.alloc (fun _=>False) _ _) (fun h=>h)).chg e9 (by omega));clear e2 i7 e9)
      go_roundw
      case rel=>exact⟨q+1,n6,by omega,by go_num,by rw[g8.o];congr 1;omega,f5.o.cast (by rw[h3.o,Ey]) (by rw[h0.o,Ey]) (by rw[g9.o,Ey]) (by rw[b3.o];omega) (by rw[f9.o];omega),by rw[b3.o];omega,by rw[f7.o];exact j6.o,j3.o,j9.o⟩
      case measure=>simp[intOf];omega
     ·have m9:¬(q:Int)< (args.length:Int):=by omega
      have i4:q=args.length:=by omega
      have HQ:=qh i4;clear i4;have R:=qh (Chk.cast (sh':=(true|| !TY)) (bo':=(M|| !RA)) (na':=(na|| !NA)) (nd':=((nd+SZ:Nat):Int)) (gr':=((j+CO:Nat):Int)) a5.o (by rw[HQ.o,List.take_length];exact a8.o) (by rw[HQ.o,List.take_length];exact a9.o) (by rw[HQ.o,List.take_length];exact b0.o) (by rw[a3.o,HQ.o,List.take_length];omega) (by rw[HQ.o,List.take_length,b1.o]));have T:Hid (((Bm (args.take q):Nat):Int)+1=((LV:Nat):Int)):=by show _=_;rw[n9.o,HQ.o,List.take_length];omega
      have e7:Hid (mq<=mn+sizes args):=by have h1:=m7;rw[HQ.o,List.take_length]at h1;exact h1
      by_cases N:o=6
      ·have h7:=b2.o N
       have P:Hid (CL=if g=(d:Int) then Au args d u++ [(d:Int)] else Au args d u):=by have:=L.o;rw[if_pos N,<-h7]at this;exact this
       subst N;clear h7;by_cases hgg:g=(d:Int)
       ·have z:Hid (CL=Au args d u++ [(d:Int)]):=by have:=P.o;rw[if_pos hgg]at this;exact this
        subst hgg;obtain⟨D,hD,i2⟩:=a2.o;have f8:=qh (i2.put (d:Int));clear i2
        go_wp2_with (     at_mapUpdate
                          refine wpList_mapUpdate_own _ rfl _ _ _ 136 rfl 3 4 intLaw underlying136 (plainElem Tryz.prog 4) J mq D rfl hD (by unfold maxLen;omega) _ _ (.int .i64 (d:Int)) rfl rfl (keyInt (by omega) (by omega)) (.lit (.bool true)) [] (plainElem_bool underlying4 true) ?_;intro w5 f1 m3)
        go_ret;have i1:Chg (fun b=>b=J) wr w5:=(Chg.grown m3).mono (fun k _ e=>by cases e;rfl);exact⟨by rw[<- T.o];rfl,(R.o.chg i1 A).cast (by simp) rfl rfl (by omega) (by omega),⟨mq+1,by have h1:=a3.o;have h2:=e7.o;omega,by rw[z.o];have hh:=f8.o;rw[HQ.o,List.take_length]at hh;exact⟨_,f1,hh⟩⟩,a1.o.trans i1 (fun k _ e=>.inr e)⟩
       ·have o6:(g==(d:Int))=false:=by simp[hgg]
        have z:Hid (CL=Au args d u):=by have:=P.o;rw[if_neg hgg]at this;exact this
        clear hgg P;go_wp2;go_ret;exact⟨by rw[<- T.o];rfl,R.o.cast (by simp) rfl rfl (by omega) (by omega),⟨mq,by have h1:=a3.o;have h2:=e7.o;omega,by rw[z.o];have hh:=a2.o;rw[HQ.o,List.take_length]at hh;exact hh⟩,a1.o⟩
      ·have m0:(o==6)=false:=by simp[N]
       have z:Hid (CL=Au args d u):=by have:=L.o;rw[if_neg N]at this;exact this
       clear N L;go_wp2;go_ret;exact⟨by rw[<- T.o];rfl,R.o.cast (by simp) rfl rfl (by omega) (by omega),⟨mq,by have h1:=a3.o;have h2:=e7.o;omega,by rw[z.o];have hh:=a2.o;rw[HQ.o,List.take_length]at hh;exact hh⟩,a1.o⟩
  |false=>
   go_enter func79,ntmps79
   go_upto_block 0 with (go_at_call 117
                         (refine (p3.o _ m1).mono ?_);rintro e1 w2 ⟨rfl,j0⟩;have a0:=qh (((f2.o.set3 ((nd:Int)+1)).chg (Chg.alloc (fun _=>False) _ _) (fun h=>h)).chg (Chg.of (C:=fun _=>False) j0) (fun h=>h));have e6:=qh ((K.o.chg (((Chg.refl (fun b=>b=cb) w).set (cb:=cb) _ rfl 3 _).trans (Chg.alloc (fun _=>False) _ _) (fun k _ h=>h.elim)) (Ne.symm A)).chg (Chg.of (C:=fun _=>False) j0) (fun h=>h));have f4:Hid (Chg (fun b=>b=cb\/b=J) w w2):=(((Chg.refl _ w).set (cb:=cb) _ (.inl rfl) 3 _).trans (Chg.alloc (fun _=>False) _ _) (fun k _ h=>h.elim)).trans (Chg.of (C:=fun _=>False) j0) (fun k _ h=>h.elim);have e8:=qh ((Box9.new (w.setCell ⟨cb,3,none⟩ (.int .i64 ((nd:Int)+1))) o x0 x1 x2 x3 l h g (.slice a args.length c) 28).stays j0);have p2:(w.setCell ⟨cb,3,none⟩ (.int .i64 ((nd:Int)+1))).heap.size=w.heap.size:=(by simp);rw[p2]at e8;clear p2;obtain⟨d0,d1,d2,d3,d4,d5,d6,d7,d8,d9⟩:=e8.o;obtain⟨b4,b5,b6,b7,b8,b9,cz,i9⟩:=a0.o;have r2:=cz 0;have r3:=cz 1;have r4:=cz 2;have r5:=cz 3;have r6:=cz 4;clear cz)
   go_cut [] (fun wx=>Chk wx cb J h4 O U ((nd:Int)+1) (d:Int)/\Ho wx J mn u/\Chg (fun b=>b=cb\/b=J) w wx/\Box9 wx w.heap.size o x0 x1 x2 x3 l h g (.slice a args.length c))
   case first=>
    rcases (by omega:o=5\/o=6\/o=9\/(o≠5/\o≠6/\o≠9)) with rfl | rfl | rfl | ⟨h5,N,h9⟩
    ·have g6:Hid (O=(M|| !decide (0<=l/\l<=64/\(h= -1\/l<=h/\h<=64)))):=by have:=G.out;rw[if_pos rfl]at this;exact this
     have a6:Hid (U=na):=by have:=E.out;rw[if_neg (by decide),Bool.not_true,Bool.or_false]at this;exact this
     have a7:Hid (d=j):=by have:=y.out;rw[if_neg (by decide)]at this;exact this
     clear G E y a8 a9 b0 b1 L b2;cases M
     all_goals
      by_cases V:h= -1
      ·have m6:(h != -1)=false:=by simp[V]
       have j5:=qh V;clear V;go_wp2_with fail
       all_goals
        go_meet
        have V:=j5.o;exact⟨((a0.o.set0 _).set1 _).cast (by rw[Q.out];simp) (by rw[g6.o,Bool.eq_iff_iff];simp <;> omega) (by rw[a6.o]) rfl (by rw[a7.o]),e6.o.chg (((Chg.refl (fun b=>b=cb) w2).set (cb:=cb) _ rfl 0 _).set (cb:=cb) _ rfl 1 _) (Ne.symm A),(f4.o.set (cb:=cb) _ (.inl rfl) 0 _).set (cb:=cb) _ (.inl rfl) 1 _,e8.o.chg (((Chg.refl (fun b=>b=cb) w2).set (cb:=cb) _ rfl 0 _).set (cb:=cb) _ rfl 1 _) (by omega)⟩
      ·have m6:(h != -1)=true:=by simp[V]
       go_wp2_with fail
       all_goals
        go_meet
        exact⟨((a0.o.set0 _).set1 _).cast (by rw[Q.out];simp) (by rw[g6.o,Bool.eq_iff_iff];simp <;> omega) (by rw[a6.o]) rfl (by rw[a7.o]),e6.o.chg (((Chg.refl (fun b=>b=cb) w2).set (cb:=cb) _ rfl 0 _).set (cb:=cb) _ rfl 1 _) (Ne.symm A),(f4.o.set (cb:=cb) _ (.inl rfl) 0 _).set (cb:=cb) _ (.inl rfl) 1 _,e8.o.chg (((Chg.refl (fun b=>b=cb) w2).set (cb:=cb) _ rfl 0 _).set (cb:=cb) _ rfl 1 _) (by omega)⟩
    ·have g0:Hid (O=(M|| !decide (g=(j:Int)+1))):=by have:=G.out;rw[if_neg (by decide),if_pos rfl]at this;exact this
     have g2:Hid (U=na):=by have:=E.out;rw[if_neg (by decide),Bool.not_true,Bool.or_false]at this;exact this
     have g4:Hid (d=j+1):=by have:=y.out;rw[if_pos rfl]at this;exact this
     clear G E y a8 a9 b0 b1 L b2;cases M
     all_goals
      go_wp2_with fail
      go_region
      all_goals
       go_wp2_with fail
       go_meet
       exact⟨((((a0.o.set0 _).set4 _).set1 _).drew).cast (by rw[Q.out];simp) (by rw[g0.o];(try rw[bne_dec]);simp) (by rw[g2.o]) rfl (by rw[g4.o];omega),(e6.o.chg ((((Chg.refl (fun b=>b=cb) w2).set (cb:=cb) _ rfl 0 _).set (cb:=cb) _ rfl 4 _).set (cb:=cb) _ rfl 1 _) (Ne.symm A)).drew,(((f4.o.set (cb:=cb) _ (.inl rfl) 0 _).set (cb:=cb) _ (.inl rfl) 4 _).set (cb:=cb) _ (.inl rfl) 1 _).drew,(e8.o.chg ((((Chg.refl (fun b=>b=cb) w2).set (cb:=cb) _ rfl 0 _).set (cb:=cb) _ rfl 4 _).set (cb:=cb) _ rfl 1 _) (by omega)).drew⟩
    ·have g1:Hid (O=M):=by have:=G.out;rw[if_neg (by decide),if_neg (by decide),Bool.not_true,Bool.or_false]at this;exact this
     have g3:Hid (U=(na|| !QB)):=by have:=E.out;rw[if_pos rfl]at this;exact this
     have g5:Hid (d=j):=by have:=y.out;rw[if_neg (by decide)]at this;exact this
     clear G E y a8 a9 b0 b1 L b2;cases na
     all_goals
      have p7:=(e6.o.chg ((Chg.refl (fun b=>b=cb) w2).set (cb:=cb) _ rfl 0 (.bool (!S))) (Ne.symm A)).look i8.o j1 j2;have p8:=(e6.o.chg ((Chg.refl (fun b=>b=cb) w2).set (cb:=cb) _ rfl 0 (.bool (!S))) (Ne.symm A)).drew.look i8.o j1 j2;go_wp2_with fail
      go_region
      all_goals
       go_wp2_with fail
       go_meet
       exact⟨(((a0.o.set0 _).set2 _).drew).cast (by rw[Q.out];simp) (by rw[g1.o]) (by rw[g3.o];simp) rfl (by rw[g5.o]),(e6.o.chg (((Chg.refl (fun b=>b=cb) w2).set (cb:=cb) _ rfl 0 _).set (cb:=cb) _ rfl 2 _) (Ne.symm A)).drew,((f4.o.set (cb:=cb) _ (.inl rfl) 0 _).set (cb:=cb) _ (.inl rfl) 2 _).drew,(e8.o.chg (((Chg.refl (fun b=>b=cb) w2).set (cb:=cb) _ rfl 0 _).set (cb:=cb) _ rfl 2 _) (by omega)).drew⟩
    ·have p4:(o==5)=false:=by simp[h5]
     have m0:(o==6)=false:=by simp[N]
     have p5:(o==9)=false:=by simp[h9]
     have N5:=qh h5;have N6:=qh N;have N9:=qh h9;clear h5 N h9;go_wp2_with fail
     go_meet
     exact⟨(a0.o.set0 _).cast (by rw[Q.out];simp) (by rw[G.out,if_neg N5.o,if_neg N6.o];simp) (by rw[E.out,if_neg N9.o];simp) rfl (by rw[y.out,if_neg N6.o]),e6.o.chg ((Chg.refl (fun b=>b=cb) w2).set (cb:=cb) _ rfl 0 _) (Ne.symm A),f4.o.set (cb:=cb) _ (.inl rfl) 0 _,e8.o.chg ((Chg.refl (fun b=>b=cb) w2).set (cb:=cb) _ rfl 0 _) (by omega)⟩
   case rest=>
    obtain⟨e3,X,i3,e0⟩:=hcut;have f6:=qh e3;have j7:=qh X;have j4:=qh i3;have f3:=qh e0;obtain⟨d0,d1,d2,d3,d4,d5,d6,d7,d8,d9⟩:=e0;obtain⟨b4,b5,b6,b7,b8,b9,cz,i9⟩:=e3;clear X i3 cz;have o5:(d:Int)<=4097:=by omega
    have o4:0<=(d:Int):=by omega
    go_wp2_with fail
    go_loopw [7,119] (fun m i wr=>∃q mq:Nat,q<=args.length/\i=.int .i64 q/\m=.int .i64 (Bm (args.take q):Nat)/\Chk wr cb J (h4|| !Dk (args.take q)) (O|| !Bd (args.take q) d) (U|| !Cn (args.take q) d u) ((nd+1+sizes (args.take q):Nat):Int) ((d+Ai 6 (args.take q):Nat):Int)/\mq<=mn+sizes (args.take q)/\Ho wr J mq (Au (args.take q) d u)/\Chg (fun b=>b=cb\/b=J) w wr/\Box9 wr w.heap.size o x0 x1 x2 x3 l h g (.slice a args.length c)) (fun _ i _=>args.length-(intOf i).toNat)
    case atStart=>exact⟨0,mn,Nat.zero_le _,rfl,rfl,f6.o.cast (by rw[List.take_zero,Dk];(try simp)) (by rw[List.take_zero,Bd];(try simp)) (by rw[List.take_zero,Cn];(try simp)) (by rw[List.take_zero,sizes];omega) (by rw[List.take_zero,Ai];omega),by omega,j7.o,j4.o,f3.o⟩
    case round=>
     clear b4 b5 b6 b7 b8 b9 d0 d1 d2 d3 d4 d5 d6 d7 d8;obtain⟨q,mq,hq,rfl,rfl,a4,m7,I,hc,i0⟩:=hrel;have a5:=qh a4;have a2:=qh I;have a1:=qh hc;have j8:=qh i0;have e5:=qh (o3.o.trans (hc.below (B:=W0.heap.size) h8 (fun k hk e=>by omega)));have m4:=Ig (args.take q);have m5:=Cz args q;have o8:((Bm (args.take q):Nat):Int)<=4096:=by omega
     have o7:0<=((Bm (args.take q):Nat):Int):=by omega
     have m2:=By 6 (args.take q);obtain⟨d0,d1,d2,d3,d4,d5,d6,d7,d8,d9⟩:=i0;obtain⟨b4,b5,b6,b7,b8,b9,cz,i9⟩:=a4;clear I hc cz;by_cases hlt:q<args.length
     ·obtain⟨t,v,b,off,Y,hv,rfl,⟨k0,k1,k2,k3,k4,k5,k6,k7,k8⟩, -,i6,hm⟩:=(HO.o.stays e5.o).at hlt
      have f0:=HO.o.sub q t v Y hv;have m9:(q:Int)< (args.length:Int):=by omega
      have n4:=Ch Y;have n5:=Cz args (q+1);have g7:=qh (fun (sh M na:Bool) W=>IH.o t v sh M na (nd+1+sizes (args.take q)) (d+Ai 6 (args.take q)) (Au (args.take q) d u) mq W hm (by omega) (by omega) (by omega) i6 f0);have b3:=qh (Ch Y);have h3:=qh (Tw Y);have h0:=qh (Ff (n:=d) Y);have g9:=qh (Qf d u Y);have f9:=qh (Ec (k:=6) Y);have g8:=qh (Mq Y);have f7:=qh (Oa d u Y);unfold Ac at g7;obtain⟨va,vc,rfl⟩:=f0.shape;have n2:=Jm t;have p1:((levels t:Nat):Int)<=4096:=by omega
      have p0:0<=((levels t:Nat):Int):=by omega
      clear Y hv i6 f0 hm n4 n5 n2 m4 m5 m2 b4 b5 b6 b7 b8 b9
      go_wp2_with (go_at_call 79
                   (refine (g7.o _ _ _ _ (e5.o.alloc e5.o.size _) (a5.o.chg (Chg.alloc (fun _=>False) _ _) (fun h=>h)) (a2.o.chg (Chg.alloc (fun _=>False) _ _) (fun h=>h))).mono ?_);rintro e4 w4 ⟨rfl,e2,⟨n6,o9,i7⟩,e9⟩;have f5:=qh e2;have j6:=qh i7;have j3:=qh (a1.o.trans ((Chg.alloc (fun b=>b=cb\/b=J) wr _).trans e9 (fun k _ hk=>hk)) (fun k _ hk=>hk));have j9:=qh ((j8.o.chg (Chg.alloc (fun _=>False) _ _) (fun h=>h)).chg e9 (by omega));clear e2 i7 e9)
      go_roundw
      case rel=>exact⟨q+1,n6,by omega,by go_num,by rw[g8.o];congr 1;omega,f5.o.cast (by rw[h3.o,Ey]) (by rw[h0.o,Ey]) (by rw[g9.o,Ey]) (by rw[b3.o];omega) (by rw[f9.o];omega),by rw[b3.o];omega,by rw[f7.o];exact j6.o,j3.o,j9.o⟩
      case measure=>simp[intOf];omega
     ·have m9:¬(q:Int)< (args.length:Int):=by omega
      have i4:q=args.length:=by omega
      have HQ:=qh i4;clear i4;have R:=qh (Chk.cast (sh':=(false|| !TY)) (bo':=(M|| !RA)) (na':=(na|| !NA)) (nd':=((nd+SZ:Nat):Int)) (gr':=((j+CO:Nat):Int)) a5.o (by rw[HQ.o,List.take_length];exact a8.o) (by rw[HQ.o,List.take_length];exact a9.o) (by rw[HQ.o,List.take_length];exact b0.o) (by rw[a3.o,HQ.o,List.take_length];omega) (by rw[HQ.o,List.take_length,b1.o]));have T:Hid (((Bm (args.take q):Nat):Int)+1=((LV:Nat):Int)):=by show _=_;rw[n9.o,HQ.o,List.take_length];omega
      have e7:Hid (mq<=mn+sizes args):=by have h1:=m7;rw[HQ.o,List.take_length]at h1;exact h1
      by_cases N:o=6
      ·have h7:=b2.o N
       have P:Hid (CL=if g=(d:Int) then Au args d u++ [(d:Int)] else Au args d u):=by have:=L.o;rw[if_pos N,<-h7]at this;exact this
       subst N;clear h7;by_cases hgg:g=(d:Int)
       ·have z:Hid (CL=Au args d u++ [(d:Int)]):=by have:=P.o;rw[if_pos hgg]at this;exact this
        subst hgg;obtain⟨D,hD,i2⟩:=a2.o;have f8:=qh (i2.put (d:Int));clear i2
        go_wp2_with (     at_mapUpdate
                          refine wpList_mapUpdate_own _ rfl _ _ _ 136 rfl 3 4 intLaw underlying136 (plainElem Tryz.prog 4) J mq D rfl hD (by unfold maxLen;omega) _ _ (.int .i64 (d:Int)) rfl rfl (keyInt (by omega) (by omega)) (.lit (.bool true)) [] (plainElem_bool underlying4 true) ?_;intro w5 f1 m3)
        go_ret;have i1:Chg (fun b=>b=J) wr w5:=(Chg.grown m3).mono (fun k _ e=>by cases e;rfl);exact⟨by rw[<- T.o];rfl,(R.o.chg i1 A).cast (by simp) rfl rfl (by omega) (by omega),⟨mq+1,by have h1:=a3.o;have h2:=e7.o;omega,by rw[z.o];have hh:=f8.o;rw[HQ.o,List.take_length]at hh;exact⟨_,f1,hh⟩⟩,a1.o.trans i1 (fun k _ e=>.inr e)⟩
       ·have o6:(g==(d:Int))=false:=by simp[hgg]
        have z:Hid (CL=Au args d u):=by have:=P.o;rw[if_neg hgg]at this;exact this
        clear hgg P;go_wp2;go_ret;exact⟨by rw[<- T.o];rfl,R.o.cast (by simp) rfl rfl (by omega) (by omega),⟨mq,by have h1:=a3.o;have h2:=e7.o;omega,by rw[z.o];have hh:=a2.o;rw[HQ.o,List.take_length]at hh;exact hh⟩,a1.o⟩
      ·have m0:(o==6)=false:=by simp[N]
       have z:Hid (CL=Au args d u):=by have:=L.o;rw[if_neg N]at this;exact this
       clear N L;go_wp2;go_ret;exact⟨by rw[<- T.o];rfl,R.o.cast (by simp) rfl rfl (by omega) (by omega),⟨mq,by have h1:=a3.o;have h2:=e7.o;omega,by rw[z.o];have hh:=a2.o;rw[HQ.o,List.take_length]at hh;exact hh⟩,a1.o⟩
end ReMem
namespace ReMem
open Go Go.RowKit MatchMath Strs
theorem Chk.new (w:World) (b:Nat) (t:TypeId):Chk (w.alloc (.cells #[.bool false,.bool false,.bool false,.int .i64 0,.int .i64 0,.slice none 0 0,.map (some b)] t)) w.heap.size b false false false 0 0:=by
 have a:=heap_alloc_new w (.cells #[.bool false,.bool false,.bool false,.int .i64 0,.int .i64 0,.slice none 0 0,.map (some b)] t);refine⟨?_,?_,?_,?_,?_,?_,fun j=>?_,(qd a)⟩
 · rw[qc a];rfl
 · rw[qc a];rfl
 · rw[qc a];rfl
 · rw[qc a];rfl
 · rw[qc a];rfl
 · rw[qc a];rfl
 ·unfold World.frozen?
  rw[a];simp
theorem Sl (w:World) (A:Obj) (t:TypeId):Chk (((w.alloc A).alloc (.map #[] 0)).alloc (.cells #[.bool false,.bool false,.bool false,.int .i64 0,.int .i64 0,.slice none 0 0,.map (some (w.heap.size+1))] t)) (w.heap.size+1+1) (w.heap.size+1) false false false 0 0/\Ho (((w.alloc A).alloc (.map #[] 0)).alloc (.cells #[.bool false,.bool false,.bool false,.int .i64 0,.int .i64 0,.slice none 0 0,.map (some (w.heap.size+1))] t)) (w.heap.size+1) 0 []:=by
 have a:=Chk.new ((w.alloc A).alloc (.map #[] 0)) (w.heap.size+1) t;rw[show ((w.alloc A).alloc (.map #[] 0)).heap.size=w.heap.size+1+1 from by simp]at a;have b:=World.ownsMap_made (H:=Unit) (w.alloc A) Tryz.prog 3 (plainElem Tryz.prog 4);rw[show (w.alloc A).heap.size=w.heap.size+1 from by simp]at b;exact⟨a,Ho.chg ⟨_,b,Cl.nil⟩ (Chg.alloc (fun _=>False) _ _) (fun h=>h)⟩
theorem Ct (e:Re) (v:Value) (w:World) (D:size e<=4000) (c:Ag e) (y:Lies w v e.args):
  Calls Tryz.prog 56 #[Ac v e] w fun r w'=>r=.returned (.int .i64 (Bz e))/\qw w w':=by
 have a:=qh (fun W (hb:qw w W) (h1:Chk W (w.heap.size+1+1) (w.heap.size+1) false false false 0 0) (h2:Ho W (w.heap.size+1) 0 [])=>node_any w (w.heap.size+1+1) (w.heap.size+1) (by omega) (by omega) (by omega) (size e+1) e v false false false 0 0 [] 0 W (Nat.lt_succ_self _) (by omega) ql ql c y hb h1 h2);have j:Hid (Bz e=if typed e=false then 7 else if ranged e 0=false then 2 else if Kb e 0 []=false then 4 else if 600<size e\/9<Af 6 e\/32<levels e then 3 else 0):=by
  show _=_;unfold Bz;cases hr:ranged e 0 with
  | false=>rfl
  | true=>rw[named_eq e 0 [] hr]
 unfold Ac at a ⊢;obtain⟨K,L,rfl⟩:=y.shape;have x:=Ip 6 e;clear c y;generalize Bz e=CC at*;generalize e.op=o at*;generalize e.lo=l at*;generalize e.hi=h at*;generalize e.group=g at*;generalize Sets.Aa e.set 0=x0 at*;generalize Sets.Aa e.set 1=x1 at*;generalize Sets.Aa e.set 2=x2 at*;generalize Sets.Aa e.set 3=x3 at*;generalize typed e=TB at*;generalize ranged e 0=RB at*;generalize Kb e 0 []=NB at*;have u:Hid (((0+size e:Nat):Int)=((size e:Nat):Int)):=by show _=_;omega
 have t:Hid (((0+Af 6 e:Nat):Int)=((Af 6 e:Nat):Int)):=by show _=_;omega
 have p:(TB=false/\CC=7)\/(TB=true/\RB=false/\CC=2)\/(TB=true/\RB=true/\NB=false/\CC=4)\/(TB=true/\RB=true/\NB=true/\600< (size e:Int)/\CC=3)\/(TB=true/\RB=true/\NB=true/\(size e:Int)<=600/\9< (Af 6 e:Int)/\CC=3)
   \/(TB=true/\RB=true/\NB=true/\(size e:Int)<=600/\(Af 6 e:Int)<=9/\32< (levels e:Int)/\CC=3)\/(TB=true/\RB=true/\NB=true/\(size e:Int)<=600/\(Af 6 e:Int)<=9/\(levels e:Int)<=32/\CC=0):=by
  have b:=j.o;cases TB with
  | false=>exact .inl ⟨rfl,by rw[b,if_pos rfl]⟩
  |true=>
   rw[if_neg (by decide)]at b;cases RB with
   | false=>exact .inr (.inl ⟨rfl,rfl,by rw[b,if_pos rfl]⟩)
   |true=>
    rw[if_neg (by decide)]at b;cases NB with
    | false=>exact .inr (.inr (.inl ⟨rfl,rfl,rfl,by rw[b,if_pos rfl]⟩))
    |true=>
     rw[if_neg (by decide)]at b;by_cases h1:600<size e
     · exact .inr (.inr (.inr (.inl ⟨rfl,rfl,rfl,by omega,by rw[b,if_pos (.inl h1)]⟩)))
     ·by_cases h2:9<Af 6 e
      · exact .inr (.inr (.inr (.inr (.inl ⟨rfl,rfl,rfl,by omega,by omega,by rw[b,if_pos (.inr (.inl h2))]⟩))))
      ·by_cases h3:32<levels e
       · exact .inr (.inr (.inr (.inr (.inr (.inl ⟨rfl,rfl,rfl,by omega,by omega,by omega,by rw[b,if_pos (.inr (.inr h3))]⟩)))))
       · exact .inr (.inr (.inr (.inr (.inr (.inr ⟨rfl,rfl,rfl,by omega,by omega,by omega,by rw[b,if_neg (by omega)]⟩)))))
 clear j D x;have C:=@run_makeMap Tryz.prog;rcases p with ⟨rfl,rfl⟩ | ⟨rfl,rfl,rfl⟩ | ⟨rfl,rfl,rfl,rfl⟩ | ⟨rfl,rfl,rfl,i,rfl⟩ | ⟨rfl,rfl,rfl,i,n,rfl⟩ | ⟨rfl,rfl,rfl,i,n,z,rfl⟩ | ⟨rfl,rfl,rfl,i,n,z,rfl⟩;all_goals
  go_enter func56,ntmps56
  go_wp2_with (go_at_call 79
               (refine (a.o _ ((((Below.refl _ w).alloc ql _).alloc (by simp) _).alloc (by simp;omega) _) (Sl w _ _).1 (Sl w _ _).2).mono ?_);rintro J E ⟨rfl,d, -,m⟩;have d:=d.cast rfl rfl rfl u.o t.o;have q:Hid (qw w E):=((((Below.refl _ w).alloc ql _).alloc (by simp) _).alloc (by simp;omega) _).trans (m.below (B:=w.heap.size) (by simp;omega) (fun k I e=>by omega));obtain⟨c0,c1,c2,c3,c4,c6,A,G⟩:=d;clear A m)
  go_ret;exact⟨rfl,q.o⟩
end ReMem
namespace ReMem
open Go Go.RowKit MatchMath
theorem Vp (s:ByteArray) (e:Re) (v:Value) (i:Nat) (w:World) (h:Lies w v e.args) (b:Ag e) (d:Bz e=0) (j:size e<=100) (hi:i<=s.size) (p:s.size<=4096):
  Calls Tryz.prog 34 #[Ac v e,.string s,.int .i64 i] w fun r w'=>r=.returned (.int .i64 0)/\qw w w':=by
 have a:=qh (fun W (hw:qw w W)=>Ct e v W (by omega) b (h.stays hw));rw[d]at a;have m:(i:Int)<=(s.size:Int):=by omega
 have n:(s.size:Int)<=4096:=by omega
 obtain⟨q,t,rfl⟩:=h.shape;unfold Ac at a ⊢;clear h b d j;have l:=qh (qb w (.cells #[.int .i64 e.op,.int .u64 (Sets.Aa e.set 0:Nat),.int .u64 (Sets.Aa e.set 1:Nat),.int .u64 (Sets.Aa e.set 2:Nat),.int .u64 (Sets.Aa e.set 3:Nat),.int .i64 e.lo,.int .i64 e.hi,.int .i64 e.group,.slice q e.args.length t] 28));go_enter func34,ntmps34;go_wp2_with (first
  | (go_at_call 56
     (refine (a.o _ l.o).mono ?_);rintro u x ⟨rfl,c⟩;have g:=qh (Ab l.o c);clear c))
 go_ret;exact⟨rfl,g.o⟩
theorem topP_any (s:ByteArray) (p:Bool) (e:Re) (v:Value) (i:Nat) (w:World) (hl:Lies w v e.args) (t:Ag e) (a7:Bz e=0) (Y:size e<=100) (hk:Af 6 e<=4096) (a8:gok (Af 6 e) e=true) (hi:i<=s.size) (a9:s.size<=4096) (ht:Tabs w):
  Calls Tryz.prog 61 #[Ac v e,.string s,.int .i64 i,.bool p] w (TRes w ((tx s p).parses e i (List.replicate (Af 6 e) Cj))):=by
 have J:=qh (fun W (E:qw w W)=>Vp s e v i W (hl.stays E) t a7 Y hi a9);have I:=qh (fun W mm (E:qw w W) (hm:TBox W mm s p)=>all_any s p a9 e v i mm W Y a8 t (hl.stays E) hi hm (ht.stays E) hk);have a4:=qh (fun m (hm:(tx s p).parses e i (List.replicate (Af 6 e) Cj)=some m)=>Ej (tx s p) e i _ m hm);have K:=qh (fun m (hm:(tx s p).parses e i (List.replicate (Af 6 e) Cj)=some m)=>Dd (tx s p) e i _ m (by rw[show (tx s p).s.length=s.size from Ce s];exact hi) (Ik _ _) hm);have e9:(i:Int)<=(s.size:Int):=by omega
 have g0:(s.size:Int)<=4096:=by omega
 have b5:=qh hk;obtain⟨va,vc,rfl⟩:=hl.shape;unfold Ac at J I ⊢;generalize hR:(tx s p).parses e i (List.replicate (Af 6 e) Cj)=R at*;rw[List.length_replicate]at K;clear hl t a7 Y a8 hR ht;have HB:=qh (qb w (.cells #[.int .i64 e.op,.int .u64 (Sets.Aa e.set 0:Nat),.int .u64 (Sets.Aa e.set 1:Nat),.int .u64 (Sets.Aa e.set 2:Nat),.int .u64 (Sets.Aa e.set 3:Nat),.int .i64 e.lo,.int .i64 e.hi,.int .i64 e.group,.slice va e.args.length vc] 28));have HX:=qh (Box9.new w e.op (Sets.Aa e.set 0) (Sets.Aa e.set 1) (Sets.Aa e.set 2) (Sets.Aa e.set 3) e.lo e.hi e.group (.slice va e.args.length vc) 28);go_enter func61,ntmps61
 go_upto_region 4 with (first
  | (go_at_call 34
     (refine (J.o _ HB.o).mono ?_);rintro e1 w1 ⟨rfl,S⟩;have b0:=qh (Ab HB.o S);have c9:=qh (HX.o.stays S);clear S))
 obtain⟨d0,d1,d2,d3,d4,d5,d6,d7,d8, -⟩:=c9.o;have d:=qb w1 (.cells #[.string s,.bool p] 148);have f0:=upc d d0;have f1:=upc d d1;have f2:=upc d d2;have f3:=upc d d3;have f4:=upc d d4;have f5:=upc d d5;have f6:=upc d d6;have f7:=upc d d7;have f8:=upc d d8;have N:=qh (Ab b0.o d);have a1:=qh (I.o _ w1.heap.size N.o (TBox.new w1 s p 148));clear d d0 d1 d2 d3 d4 d5 d6 d7 d8;cases R with
 |none=>
  go_wp2_with (first
   | ( go_at_call 84
       (refine a1.o.mono ?_);rintro e5 w5 ⟨h5,B⟩;obtain rfl:=h5;have q:=qh (Ab N.o B)))
  go_ret2;exact⟨rfl,q.o⟩
 |some l=>
  have a3:=qh (a4.o l rfl);have a5:=qh (K.o l rfl);go_wp2_with (first
   | ( go_at_call 84
       (refine a1.o.mono ?_);rintro e5 w5 ⟨h5,B⟩;obtain⟨lv,rfl,V⟩:=h5;have q:=qh (Ab N.o B);have b6:=qh V.lies;obtain⟨la,lc,rfl⟩:=V.form;clear V B))
  have f9:(l.length:Int)<=4096:=by have:=a3.o;omega
  clear f0 f1 f2 f3 f4 f5 f6 f7 f8
  go_loopw [13,37] (fun nx ix wr=>∃(j:Nat) (ov:Value),j<=l.length/\ix=.int .i64 j/\ov=nx/\PRow wr w5.heap.size ov (l.take j)/\qw w5 wr) (fun _ ix _=>l.length-(intOf ix).toNat)
  case atStart=>exact⟨0,_,Nat.zero_le _,rfl,rfl,PRow.nil _ _,Below.refl _ _⟩
  case round=>
   obtain⟨j,ov,hj,rfl,rfl,u,C⟩:=hrel;have n:=qh u;have r:=qh C;have HJ:=qh hj;obtain⟨a0,h⟩:∃x,l.take j=x:=⟨_,rfl⟩;have L:=qh h;rw[h]at u n;have P:Hid (a0.length=j):=by show _=_;rw[<- h,List.length_take];omega
   obtain⟨oa,oc,rfl⟩:∃a c,ov=.slice a j c:=by have:=u.form;rwa [P.o]at this
   clear h;by_cases hjt:j<l.length
   ·  have e2:(j:Int)< (l.length:Int):=by omega
      have O:=qh hjt;have hz:l[j]? =some l[j]:=List.getElem?_eq_getElem hjt;have HZ:=qh hz;obtain⟨mb,e4,yv,em,y1,y2,G⟩:=(b6.o.stays C).at hz;obtain⟨ya,yc,rfl⟩:=G.shape;have g1:=G.len.2;have d9:=qh (a5.o _ (List.getElem_mem hjt));have b8:Hid (l.take (j+1)=a0++ [l[j]]):=by show _=_;rw[List.take_add_one,hz,L.o];rfl
      have M:=qh (qb wr (.cells #[.int .i64 (l[j].1:Int),.slice ya l[j].2.length yc] 119));have a6:=qh (heap_alloc_new wr (.cells #[.int .i64 (l[j].1:Int),.slice ya l[j].2.length yc] 119));have e0:=qh (G.stays M.o);cases em
      clear hz G u C hj;generalize l[j]=y at*;obtain⟨ye,g⟩:=y;simp only at*
      go_upto_region 11 with fail
      generalize wr.alloc (.cells #[.int .i64 (ye:Int),.slice ya g.length yc] 119)=wb at*;have q0:wb.cell? ⟨wr.heap.size,0,none⟩=some (.int .i64 (ye:Int)):=by rw[qc a6.o];rfl
      have q1:wb.cell? ⟨wr.heap.size,1,none⟩=some (.slice ya g.length yc):=by rw[qc a6.o];rfl
      have b3:=qh (fun W (E:qw wb W)=>cloneSp_any (.slice ya g.length yc) g W (e0.o.stays E) (by have h1:g.length=_:=d9.o.2.2.1;have:=b5.o;omega));have A:=qh (fun W (E:qw wb W)=>And.intro (upc E q0) (upc E q1));have z:=qh (r.o.trans (M.o.mono r.o.size))
      go_region_held3 (fun w'=>w'.cell? ⟨wr.heap.size,0,none⟩=some (.int .i64 (ye:Int))/\w'.cell? ⟨wr.heap.size,1,none⟩=some (.slice ya g.length yc)) (first | exact A.o _ (Below.refl _ _) | exact A.o _ ((Below.refl _ wb).drew) | exact A.o _ b.o | exact Q.o _ | exact b9.o)
        (first
        | (go_at_call 85
           (refine (b3.o _ (by first | exact (Below.refl _ wb).drew | exact Below.refl _ wb)).mono ?_)
           rintro e6 w6 ⟨⟨cv,rfl,U⟩,T⟩;have b:Hid (qw wb w6):=(by first | exact Ab ((Below.refl _ wb).drew) T | exact T)
           have Q:=qh (fun (ob:Obj)=>A.o (w6.alloc ob) (b.o.alloc b.o.size ob));have b4:=qh U;obtain⟨e7,e8,rfl⟩:=U.shape;clear U T)
        | (refine Nc _ (by rfl) _ _ (by rfl) w5.heap.size (.slice oa j oc) a0 (by rfl) (n.o.stays (Ab M.o (b.o.alloc b.o.size _))) (.slice (some ⟨w6.heap.size,0,none⟩) 1 1) [(ye,g)] (by rfl) (PRow.one w6 (ye,g) _ b4.o).lies (by rw[P.o];have:=a3.o;have:=O.o;simp;omega) (Nat.le_trans z.o.size (b.o.alloc b.o.size _).size) ?_
           intro v7 w7 X D e3;obtain⟨g2,g3,rfl⟩:∃a c,v7=.slice a (j+1) c:=by have:=X.form;rw[List.length_append,P.o]at this;exact this
           have b7:=qh X;have b1:=qh ((z.o.trans ((b.o.alloc b.o.size _).mono z.o.size)).trans (D.below (Nat.le_trans z.o.size (b.o.alloc b.o.size _).size) (fun k hk e=>by have:=(n.o.lt k e.symm).1;omega)));have b9:=qh (And.intro (D.cell (Q.o _).1 (fun e=>by have:=(n.o.lt _ e.symm).2;simp at this)) (D.cell (Q.o _).2 (fun e=>by have:=(n.o.lt _ e.symm).2;simp at this)));clear X D e3))
      go_wp2_with fail
      go_roundw
      case rel=>exact⟨j+1,_,O.o,by go_num,rfl,by rw[b8.o];exact b7.o,b1.o⟩
      case measure=>have:=O.o;simp[intOf];omega
   ·  have e2:¬(j:Int)< (l.length:Int):=by omega
      have a2:Hid (PRow wr w.heap.size (.slice oa j oc) l):=by
        show PRow _ _ _ _;have h1:=n.o;rw[<- L.o,show l.take j=l from List.take_of_length_le (by omega)]at h1;exact h1.mono q.o.size
      have b2:=qh (q.o.trans (r.o.mono q.o.size));clear u C hj;go_wp2_with fail
      go_ret2;exact⟨⟨_,rfl,a2.o⟩,b2.o⟩
end ReMem
namespace ReMem
open Go Go.RowKit MatchMath
theorem Aj (q:Nat):Sets.Aa noP q=0:=(word_zero noP q).2 fun _ _=>rfl
theorem LiesB.one {B:Nat->Prop} {w:World} (b:Nat) (x:Re) (v:Value) (T:TypeId) (fz:Nat×Nat) (g:w.heap[b]? =some (.cells (Bi v x).toArray T fz)) (d:B b) (h:Ag x) (l:LiesB B w v x.args):LiesB B w (.slice (some ⟨b,0,none⟩) 1 1) [x]:=by
 refine .mk _ 1 [x] [v] rfl ⟨ql,by unfold maxLen;omega⟩ (fun t m=>by obtain rfl:=List.mem_singleton.1 m;exact h) (fun _=>⟨b,0,d,rfl,fun j t u a c i z n=>?_⟩) (fun j t u a c=>?_)
 ·have e:j=0:=by
   have:=(List.getElem?_eq_some_iff.1 a).1;simp only[List.length_singleton]at this;omega
  subst e;obtain rfl:x=t:=by simpa using a
  obtain rfl:v=u:=by simpa using c
  rw[qc g,Nat.mul_zero,Nat.zero_add];simpa using n
 ·have e:j=0:=by
   have:=(List.getElem?_eq_some_iff.1 a).1;simp only[List.length_singleton]at this;omega
  subst e;obtain rfl:x=t:=by simpa using a
  obtain rfl:v=u:=by simpa using c
  exact l
theorem Ez (B:Nat->Prop) (x:Re) (v:Value) (lo hi:Int) (w:World) (i:Ag x) (g:LiesB B w v x.args) (h:∀b,w.heap.size<=b->B b):
  Calls Tryz.prog 201 #[Ac v x,.int .i64 lo,.int .i64 hi] w fun r w'=>(∃v',r=.returned (Ac v' (repT x lo hi))/\LiesB B w' v' (repT x lo hi).args)/\qw w w':=by
 obtain⟨c,d,rfl⟩:=g.lies.shape;have m:=qh g;have l:=qh i;have j:=qh h;have n:=Aj 0;have p:=Aj 1;have q:=Aj 2;have t:=Aj 3;unfold Ac;clear g i h;go_enter func201,ntmps201;go_wp2;have a:=Ax (.cells (xA x c d) 28) (Cb (w.alloc (.cells (xA x c d) 28)) (.cells (ZA 5 lo hi 0 (.slice (some ⟨w.heap.size+1+1,0,none⟩) 1 1)) 28) (w.heap.size+1) (by simp));have u:=Cb ((w.alloc (.cells (xA x c d) 28)).alloc (.cells (ZA 5 lo hi 0 (.slice (some ⟨w.heap.size+1+1,0,none⟩) 1 1)) 28)) (.cells (xA x c d) 28) (w.heap.size+1+1) (by simp);have e:qw w (((w.alloc (.cells (xA x c d) 28)).alloc (.cells (ZA 5 lo hi 0 (.slice (some ⟨w.heap.size+1+1,0,none⟩) 1 1)) 28)).alloc (.cells (xA x c d) 28)):=(((qb w _).alloc (by simp) _).alloc (by simp;omega) _);generalize (((w.alloc (.cells (xA x c d) 28)).alloc (.cells (ZA 5 lo hi 0 (.slice (some ⟨w.heap.size+1+1,0,none⟩) 1 1)) 28)).alloc (.cells (xA x c d) 28))=w3 at*;have c0:w3.cell? ⟨w.heap.size+1,0,none⟩=some (.int .i64 5):=by rw[qc a];rfl
 have c1:w3.cell? ⟨w.heap.size+1,1,none⟩=some (.int .u64 0):=by rw[qc a];rfl
 have c2:w3.cell? ⟨w.heap.size+1,2,none⟩=some (.int .u64 0):=by rw[qc a];rfl
 have c3:w3.cell? ⟨w.heap.size+1,3,none⟩=some (.int .u64 0):=by rw[qc a];rfl
 have c4:w3.cell? ⟨w.heap.size+1,4,none⟩=some (.int .u64 0):=by rw[qc a];rfl
 have c5:w3.cell? ⟨w.heap.size+1,5,none⟩=some (.int .i64 lo):=by rw[qc a];rfl
 have c6:w3.cell? ⟨w.heap.size+1,6,none⟩=some (.int .i64 hi):=by rw[qc a];rfl
 have c7:w3.cell? ⟨w.heap.size+1,7,none⟩=some (.int .i64 0):=by rw[qc a];rfl
 have c8:w3.cell? ⟨w.heap.size+1,8,none⟩=some (.slice (some ⟨w.heap.size+1+1,0,none⟩) 1 1):=by rw[qc a];rfl
 try simp only[Exit.inBlock,Exit.then]
 refine bodyPost_ret (v:=.agg (ZA 5 lo hi 0 (.slice (some ⟨w.heap.size+1+1,0,none⟩) 1 1))) (by simp[results,results201,go_sem,c0,c1,c2,c3,c4,c5,c6,c7,c8]) rfl ?_;refine⟨⟨.slice (some ⟨w.heap.size+1+1,0,none⟩) 1 1,?_,?_⟩,e⟩
 ·show _=Ending.returned (.agg #[.int .i64 5,.int .u64 (Sets.Aa noP 0:Nat),.int .u64 (Sets.Aa noP 1:Nat),.int .u64 (Sets.Aa noP 2:Nat),.int .u64 (Sets.Aa noP 3:Nat),.int .i64 lo,.int .i64 hi,.int .i64 0,_])
  rw[n,p,q,t];rfl
 · exact LiesB.one (w.heap.size+1+1) x _ 28 (0,0) u (j.o _ (by omega)) l.o (m.o.stays e)
end ReMem
end Go.Proofs.YtjefcpjciogcjaaGreatDoor
