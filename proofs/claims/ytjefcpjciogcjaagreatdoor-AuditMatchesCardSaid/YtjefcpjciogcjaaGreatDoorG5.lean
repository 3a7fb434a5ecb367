/- Lemmas for the walk of the law, in 8 parts. No condition beyond what each states. -/
import Derived.Test.YtjefcpjciogcjaaGreatDoorG3
import Derived.Test.YtjefcpjciogcjaaGreatDoorG1
import Derived.Test.YtjefcpjciogcjaaGreatDoorG4
import Derived.Test.YtjefcpjciogcjaaGreatDoorG0
import Derived.Test.YtjefcpjciogcjaaGreatDoorG2
import Derived.Deep.RegionWith
import Derived.Deep.RegionHeld3
import Derived.StillTailTactics
import Derived.BigQuiet
namespace Go.Proofs.YtjefcpjciogcjaaGreatDoor
set_option maxRecDepth 100000
set_option linter.unusedVariables false
set_option maxHeartbeats 16000000
open Tryz
namespace ReMem
open Go Go.RowKit MatchMath Strs
theorem Jy (k:Int):∀a b:List Re,Dz (a++b) k=(Dz a k||Dz b k)
 | [],b=>by rw[List.nil_append,Dz,Bool.false_or]
 | x::r,b=>by rw[List.cons_append,Dz,Dz,Jy k r b,Bool.or_assoc]
theorem Mo {l:List Re} {q:Nat} {t:Re} (k:Int) (h:l[q]? =some t):Dz (l.take (q+1)) k=(Dz (l.take q) k||inner t k):=by rw[Bt h,Jy,Dz,Dz,Bool.or_false]
theorem Ta {l:List Re} {q:Nat} {t:Re} (k:Int) (h:l[q]? =some t) (b:inner t k=true):Dz l k=true:=by
 have a:=Jy k (l.take (q+1)) (l.drop (q+1));rw[List.take_append_drop,Mo k h,b,Bool.or_true,Bool.true_or]at a;exact a
theorem refInner_any (k:Int):∀(n:Nat) (e:Re) (v:Value) (w:World),size e<n->Ag e->Lies w v e.args->
  Calls Tryz.prog 225 #[Ac v e,.int .i64 k] w fun r w'=>r=.returned (.bool (inner e k))/\qw w w':=by
 intro n
 induction n with
 | zero=>intro e v w Y;omega
 |succ n ih=>
  intro e v w Y O hl;obtain⟨o,p,l,h,g,args⟩:=e;obtain⟨a,c,vs,rfl,⟨X,V⟩,ho⟩:=hl.opened;have IH:=qh (fun t v W (E:t∈args)=>ih t v W (Nat.lt_of_lt_of_le (Bo (e:=.mk o p l h g args) E) (Nat.le_of_lt_succ Y)));clear ih Y hl;have T:Hid (inner (.mk o p l h g args) k=((decide (o=6/\g=k))||Dz args k)):=by show _=_;rw[inner]
  unfold Ac;simp only[Re.op,Re.set,Re.lo,Re.hi,Re.group,Re.args]at*;have a0:args.length<=9223372036854775807:=Nat.le_trans X V;have HO:=qh ho;clear ho O;generalize inner (.mk o p l h g args) k=R at*;generalize Sets.Aa p 0=x0 at*;generalize Sets.Aa p 1=x1 at*;generalize Sets.Aa p 2=x2 at*;generalize Sets.Aa p 3=x3 at*;have U:=qh (qb w (.cells #[.int .i64 o,.int .u64 x0,.int .u64 x1,.int .u64 x2,.int .u64 x3,.int .i64 l,.int .i64 h,.int .i64 g,.slice a args.length c] 28));have G:=qh (Box9.new w o x0 x1 x2 x3 l h g (.slice a args.length c) 28);by_cases hk:o=6/\g=k
  ·have HR:Hid (R=true):=by show _=_;rw[T.o,decide_eq_true hk,Bool.true_or]
   obtain⟨rfl,rfl⟩:=hk;go_enter func225,ntmps225;go_wp2;go_ret;exact⟨by rw[HR.o];rfl,U.o⟩
  ·have C:Hid (R=Dz args k):=by show _=_;rw[T.o,decide_eq_false hk,Bool.false_or]
   rcases (by omega:o≠6\/(o=6/\g≠k)) with S | ⟨rfl,P⟩
   ·have b1:(o==6)=false:=by simp[S]
    clear hk S T;go_enter func225,ntmps225;go_wp2
    go_loopw [5] (fun i wr=>∃q:Nat,q<=args.length/\i=.int .i64 q/\qw w wr/\Box9 wr w.heap.size o x0 x1 x2 x3 l h g (.slice a args.length c)/\Dz (args.take q) k=false) (fun i _=>args.length-(intOf i).toNat)
    case atStart=>exact⟨0,Nat.zero_le _,rfl,U.o,G.o,rfl⟩
    case round=>
     obtain⟨q,hq,rfl,D,A,j⟩:=hrel;have M:=qh j;have I:=qh A;have u:=qh D;obtain⟨d0,d1,d2,d3,d4,d5,d6,d7,d8,d9⟩:=A;clear j;by_cases hlt:q<args.length
     ·obtain⟨t,v,b,off,E,hv,rfl,⟨k0,k1,k2,k3,k4,k5,k6,k7,k8⟩,x,B,Q⟩:=(HO.o.stays D).at hlt
      have L:(q:Int)< (args.length:Int):=by omega
      have z:=qh (IH.o t v wr Q B x);have K:=qh E;have J:=qh (Mo k E);unfold Ac at z;obtain⟨va,vc,rfl⟩:=x.shape;clear E hv B x Q D;cases hty:inner t k with
      |true=>
       have HR:Hid (R=true):=by show _=_;rw[C.o,Ta k K.o hty]
       rw[hty]at z
       go_wp2_with (go_at_call 225
                    (refine z.o.mono ?_);rintro e w3 ⟨rfl,d⟩;have m:=qh (Ab u.o d))
       go_ret;exact⟨by rw[HR.o];rfl,m.o⟩
      |false=>
       rw[hty]at z
       go_wp2_with (go_at_call 225
                    (refine z.o.mono ?_);rintro e w3 ⟨rfl,d⟩;have m:=qh (Ab u.o d);have y:=qh (I.o.stays d))
       go_roundw
       case rel=>exact⟨q+1,by omega,by go_num,m.o,y.o,by rw[J.o,M.o,hty];rfl⟩
       case measure=>simp[intOf];omega
     ·have L:¬(q:Int)< (args.length:Int):=by omega
      have HR:Hid (R=false):=by
       show _=_;have N:=M.o;rw[show q=args.length by omega,List.take_length]at N;rw[C.o,N]
      clear D;go_wp2;go_ret;exact⟨by rw[HR.o];rfl,u.o⟩
   ·have b1:(g==k)=false:=by simp[P]
    clear hk P T;go_enter func225,ntmps225;go_wp2
    go_loopw [5] (fun i wr=>∃q:Nat,q<=args.length/\i=.int .i64 q/\qw w wr/\Box9 wr w.heap.size 6 x0 x1 x2 x3 l h g (.slice a args.length c)/\Dz (args.take q) k=false) (fun i _=>args.length-(intOf i).toNat)
    case atStart=>exact⟨0,Nat.zero_le _,rfl,U.o,G.o,rfl⟩
    case round=>
     obtain⟨q,hq,rfl,D,A,j⟩:=hrel;have M:=qh j;have I:=qh A;have u:=qh D;obtain⟨d0,d1,d2,d3,d4,d5,d6,d7,d8,d9⟩:=A;clear j;by_cases hlt:q<args.length
     ·obtain⟨t,v,b,off,E,hv,rfl,⟨k0,k1,k2,k3,k4,k5,k6,k7,k8⟩,x,B,Q⟩:=(HO.o.stays D).at hlt
      have L:(q:Int)< (args.length:Int):=by omega
      have z:=qh (IH.o t v wr Q B x);have K:=qh E;have J:=qh (Mo k E);unfold Ac at z;obtain⟨va,vc,rfl⟩:=x.shape;clear E hv B x Q D;cases hty:inner t k with
      |true=>
       have HR:Hid (R=true):=by show _=_;rw[C.o,Ta k K.o hty]
       rw[hty]at z
       go_wp2_with (go_at_call 225
                    (refine z.o.mono ?_);rintro e w3 ⟨rfl,d⟩;have m:=qh (Ab u.o d))
       go_ret;exact⟨by rw[HR.o];rfl,m.o⟩
      |false=>
       rw[hty]at z
       go_wp2_with (go_at_call 225
                    (refine z.o.mono ?_);rintro e w3 ⟨rfl,d⟩;have m:=qh (Ab u.o d);have y:=qh (I.o.stays d))
       go_roundw
       case rel=>exact⟨q+1,by omega,by go_num,m.o,y.o,by rw[J.o,M.o,hty];rfl⟩
       case measure=>simp[intOf];omega
     ·have L:¬(q:Int)< (args.length:Int):=by omega
      have HR:Hid (R=false):=by
       show _=_;have N:=M.o;rw[show q=args.length by omega,List.take_length]at N;rw[C.o,N]
      clear D;go_wp2;go_ret;exact⟨by rw[HR.o];rfl,u.o⟩
theorem Ww (e:Re) (v sv:Value) (l:List Span) (w:World) (I:Ag e) (M:Lies w v e.args) (h:Al w sv l) (hl:l.length<=4096):
  Calls Tryz.prog 210 #[Ac v e,sv] w fun r w'=>(∃v,r=.returned v/\Al w' v (clear (Ap e) l))/\qw w w':=by
 obtain⟨i0,hi,X,Y,a0⟩:=info_parts Qq;obtain⟨a,c,rfl⟩:=h.shape;have H:=qh h;have a2:Hid ((clear (Ap e) l).length=l.length):=Ef _ _;have P:Hid (∀q:Nat,(clear (Ap e) l)[q]? =(l[q]?).map fun x=>if inner e ((q:Int)+1)=true then Cj else x):=by
  show ∀q:Nat,_;intro q;rw[clear_at,inner_eq];simp
 have R:=qh (fun k W (O:qw w W)=>refInner_any k (size e+1) e v W (Nat.lt_succ_self _) I (M.stays O));obtain⟨va,vc,rfl⟩:=M.shape;have a4:(l.length:Int)<=4096:=by omega
 clear h I M;generalize clear (Ap e) l=m at*;unfold Ac at R ⊢;generalize e.op=o at*;generalize e.lo=lo at*;generalize e.hi=hi' at*;generalize e.group=g at*;generalize Sets.Aa e.set 0=x0 at*;generalize Sets.Aa e.set 1=x1 at*;generalize Sets.Aa e.set 2=x2 at*;generalize Sets.Aa e.set 3=x3 at*;have HB:=qh (qb w (.cells #[.int .i64 o,.int .u64 x0,.int .u64 x1,.int .u64 x2,.int .u64 x3,.int .i64 lo,.int .i64 hi',.int .i64 g,.slice va e.args.length vc] 28));have S:=qh (Box9.new w o x0 x1 x2 x3 lo hi' g (.slice va e.args.length vc) 28);go_enter func210,ntmps210;go_wp2
 go_loopw [5,6] (fun v i wr=>∃(q:Nat) (rv:Value),q<=l.length/\i=.int .i64 q/\rv=v/\Own.Row wr (w.heap.size+1) 53 2 rv q (Az (m.take q))/\qw w wr/\w.heap.size+1<=wr.heap.size/\Box9 wr w.heap.size o x0 x1 x2 x3 lo hi' g (.slice va e.args.length vc)) (fun _ i _=>l.length-(intOf i).toNat)
 case atStart=>exact⟨0,_,Nat.zero_le _,rfl,rfl,Own.Row.nil _ _ _ _,HB.o,by simp,S.o⟩
 case round=>
  obtain⟨q,rv,hq,rfl,rfl,J,O,V,T⟩:=hrel;have p:=qh J;have u:=qh O;have Q:=qh T;obtain⟨d0,d1,d2,d3,d4,d5,d6,d7,d8,d9⟩:=T;clear J;by_cases hlt:q<l.length
  ·have a3:(q:Int)< (l.length:Int):=by omega
   have n1:q+1<=maxLen:=by unfold maxLen;omega
   have n2:(q+1)*16<=140737488355328:=by omega
   have G:l[q]? =some l[q]:=List.getElem?_eq_getElem hlt;obtain⟨b,off,rfl,c1,c2⟩:=(H.o.stays O).at G;have HZ:=qh G;have HI:=qh (fun W (hw:qw wr W)=>R.o ((q:Int)+1) W (u.o.trans (hw.mono u.o.size)));clear O G;generalize l[q]=y at*;cases hin:inner e ((q:Int)+1) with
   |true=>
    have G:=P.o q;rw[HZ.o,Option.map_some,if_pos hin]at G;have L:Hid (m.take (q+1)=m.take q++ [Cj]):=Bt G;rw[hin]at HI;clear G hin;go_wp2_with (first
     | (go_at_call 225
        (refine (HI.o _ ((Below.refl _ wr).alloc ql _)).mono ?_);rintro e3 E ⟨rfl,A⟩;have t:=qh (Ab ((Below.refl _ wr).alloc ql _) A);have N:wr.heap.size+1<=E.heap.size:=(by have:=A.size;simpa using this);have z:=heap_alloc_new wr (.cells #[.int .i64 y.1,.int .i64 y.2] 53);have d:E.heap[wr.heap.size]? =some (.cells #[.int .i64 y.1,.int .i64 y.2] 53 (0,0)):=(A.block _ (by simp)).trans z;have s0:E.cell? ⟨wr.heap.size,0,none⟩=some (.int .i64 y.1):=(by rw[qc d];rfl);have s1:E.cell? ⟨wr.heap.size,1,none⟩=some (.int .i64 y.2):=(by rw[qc d];rfl);have sf:∀j,E.frozen? ⟨wr.heap.size,j,none⟩=false:=(fun j=>by simp[World.frozen?,d]);have a5:=sf 0;have a6:=sf 1;have a1:=qh d;have K:=qh (((Chg.refl (fun b=>b=wr.heap.size) E).set (cb:=wr.heap.size) _ rfl 0 (.int .i64 (-1))).set (cb:=wr.heap.size) _ rfl 1 (.int .i64 (-1)));have C:=qh (Row.chg (p.o.below t.o) K.o (fun k hk=>by have:=(p.o.lt k hk).2;omega));clear A z d sf)
     | (at_builtin
        refine Bg _ rfl _ _ 40 rfl (w.heap.size+1) 53 i0 (.agg #[.int .i64 0,.int .i64 0]) 2 16 underlying40 hi X Y a0 rfl (by decide) _ q (Az (m.take q)) rfl C.o [.int .i64 (-1),.int .i64 (-1)] rfl (by simp[Value.oneCell']) E.heap.size (by simp) rfl n1 n2 (Nat.le_trans V (Nat.le_trans (Nat.le_succ _) N)) ?_;intro v' w2 D n U))
    go_roundw
    case rel=>exact⟨q+1,v',by omega,by go_num,rfl,by rw[L.o,Gz];exact D,(u.o.trans (t.o.mono u.o.size)).trans (K.o.below (B:=w.heap.size) (Nat.le_trans u.o.size t.o.size) (fun k hk e=>by have:=u.o.size;omega)) |>.trans (n.below (B:=w.heap.size) (by have h1:=u.o.size;have h2:=t.o.size;simp;omega) (fun k hk e=>by have:=(p.o.lt k e.symm).1;omega)),by have h1:=n.size;simp at h1;omega,((Q.o.stays t.o).chg K.o (by omega)).chg n (fun e=>by have:=(p.o.lt _ e.symm).1;omega)⟩
    case measure=>simp[intOf];omega
   |false=>
    have G:=P.o q;rw[HZ.o,Option.map_some,if_neg (by rw[hin];decide)]at G;have L:Hid (m.take (q+1)=m.take q++ [y]):=Bt G;rw[hin]at HI;clear G hin;go_wp2_with (first
     | (go_at_call 225
        (refine (HI.o _ ((Below.refl _ wr).alloc ql _)).mono ?_);rintro e3 E ⟨rfl,A⟩;have t:=qh (Ab ((Below.refl _ wr).alloc ql _) A);have N:wr.heap.size+1<=E.heap.size:=(by have:=A.size;simpa using this);have z:=heap_alloc_new wr (.cells #[.int .i64 y.1,.int .i64 y.2] 53);have d:E.heap[wr.heap.size]? =some (.cells #[.int .i64 y.1,.int .i64 y.2] 53 (0,0)):=(A.block _ (by simp)).trans z;have s0:E.cell? ⟨wr.heap.size,0,none⟩=some (.int .i64 y.1):=(by rw[qc d];rfl);have s1:E.cell? ⟨wr.heap.size,1,none⟩=some (.int .i64 y.2):=(by rw[qc d];rfl);have C:=qh (p.o.below t.o);clear A z d)
     | (at_builtin
        refine Bg _ rfl _ _ 40 rfl (w.heap.size+1) 53 i0 (.agg #[.int .i64 0,.int .i64 0]) 2 16 underlying40 hi X Y a0 rfl (by decide) _ q (Az (m.take q)) rfl C.o [.int .i64 y.1,.int .i64 y.2] rfl (by simp[Value.oneCell']) E.heap.size rfl rfl n1 n2 (Nat.le_trans V (Nat.le_trans (Nat.le_succ _) N)) ?_;intro v' w2 D n U))
    go_roundw
    case rel=>exact⟨q+1,v',by omega,by go_num,rfl,by rw[L.o,Gz];exact D,(u.o.trans (t.o.mono u.o.size)).trans (n.below (Nat.le_trans u.o.size t.o.size) (fun k hk e=>by have:=(p.o.lt k e.symm).1;omega)),by have h1:=n.size;have h2:=t.o.size;omega,(Q.o.stays t.o).chg n (fun e=>by have:=(p.o.lt _ e.symm).1;omega)⟩
    case measure=>simp[intOf];omega
  ·have a3:¬(q:Int)< (l.length:Int):=by omega
   have HQ:Hid (q=l.length):=by show _=_;omega
   clear O;go_wp2;go_ret;refine⟨⟨_,rfl,Al.of_row (base:=w.heap.size+1) ?_⟩,u.o⟩;have h:=p.o;rw[HQ.o,<-a2.o,List.take_length]at h;exact h
end ReMem
namespace MatchMath
def simple (l h:Int):Bool:=decide (l=0/\h=1\/l<=1/\h= -1)
def noP:Nat->Bool:=fun _=>false
def repT (x:Re) (l h:Int):Re:=.mk 5 noP l h 0 [x]
def repeated (x:Re) (l h:Int):Re:=
 if h=0 then .mk 1 noP 0 0 0 []
 else if l=1/\h=1 then x
 else if h= -1 then .mk 3 noP 0 0 0 (List.replicate (l.toNat-1) x++ [repT x 1 (-1)])
 else .mk 3 noP 0 0 0 (List.replicate l.toNat x++List.replicate (h-l).toNat (repT x 0 1))
mutual
def Ae:Re->Re
 | .mk o s l h g args=>match Aw args with
   | x::r=>if o=5/\simple l h=false then repeated x l h else .mk o s l h g (x::r)
   | []=>.mk o s l h g []
def Aw:List Re->List Re
 | []=> []
 | x::r=>Ae x::Aw r
end
mutual
def Ah:Re->Nat
 | .mk o _ l h _ args=>
   if o=2\/o=7\/o=8 then 1
   else if o=4 then Ak args+2*(args.length-1)
   else if o=5 then (if l=1 then Ak args+1 else Ak args+1+(if h<0 then 1 else 0))
   else Ak args
def Ak:List Re->Nat
 | []=>0
 | x::r=>Ah x+Ak r
end
mutual
def grown:Re->Int
 | .mk o _ l h _ args=>if o=5 then weight (growns args) l h else growns args+1
def growns:List Re->Int
 | []=>0
 | x::r=>grown x+growns r
end
def compiles (e:Re):Bool:=Bf e&&decide (Af 9 e=0)&&decide (grown e<=4096)&&decide (Ah (Ae e)+1<=4096)
def Cd (e:Re) (groups flags:Int) (pattern:Nat):Bool:=
 Bf e&&decide (groups=(Af 6 e:Int))&&decide (0<=flags/\flags<=7)&&decide (pattern<=256)&&(decide (Af 9 e≠0)||compiles e)
theorem Lc:∀(l:List Re),Aw l=l.map Ae
 | []=>by unfold Aw;rfl
 | x::r=>by rw[Aw,Lc r];rfl
theorem Hy:∀(a b:List Re),Ak (a++b)=Ak a+Ak b
 | [],b=>by simp[Ak]
 | x::a,b=>by rw[List.cons_append,Ak,Ak,Hy a b];omega
end MatchMath
namespace MatchMath
mutual
def bnd:Re->Bool
 | .mk o _ l h _ args=>(if o=5 then counted l h else true)&&bndL args
def bndL:List Re->Bool
 | []=>true
 | x::r=>bnd x&&bndL r
end
mutual
theorem Ve:∀(e:Re) (n:Nat),ranged e n=true->bnd e=true
 | .mk o s l h g args,n,hr=>by
   unfold ranged at hr;rw[Bool.and_eq_true]at hr;unfold bnd;rw[hr.1,Bool.true_and];have h2:=hr.2;split at h2
   ·rw[Bool.and_eq_true]at h2
    exact Md args _ h2.2
   · exact Md args _ h2
theorem Md:∀(l:List Re) (n:Nat),Bd l n=true->bndL l=true
 | [],_,_=>by unfold bndL;rfl
 | x::r,n,hr=>by
   unfold Bd at hr;rw[Bool.and_eq_true]at hr;unfold bndL;rw[Ve x n hr.1,Md r _ hr.2];rfl
end
theorem Vd:∀ {l:List Re} {t:Re},bndL l=true->t∈l->bnd t=true
 | [],_,_,h=>by cases h
 |x::r,t,hb,h=>by
  unfold bndL at hb;rw[Bool.and_eq_true]at hb;rcases List.mem_cons.1 h with rfl | h
  · exact hb.1
  · exact Vd hb.2 h
theorem Ew {l h:Int} (a:counted l h=true):0<=l/\l<=64/\(h= -1\/(l<=h/\h<=64)):=by unfold counted at a;simpa using a
theorem Yt {n l h:Int} (c:0<=n) (b:counted l h=true):0<=weight n l h:=by
 obtain⟨a,d,e⟩:=Ew b;have g:=Int.mul_nonneg a c;unfold weight;split
 · omega
 ·split
  · omega
  ·split
   · omega
   ·split
    · omega
    ·split
     · omega
     ·have i:=Int.mul_nonneg (show (0:Int)<=h-l by omega) (show (0:Int)<=n+1 by omega)
      omega
mutual
theorem Lf:∀e:Re,bnd e=true->0<=grown e
 | .mk o _ l h _ args,hb=>by
   unfold bnd at hb;rw[Bool.and_eq_true]at hb;have:=Er args hb.2;unfold grown;split
   ·rename_i h5
    have hc:=hb.1;rw[if_pos h5]at hc;exact Yt this hc
   · omega
theorem Er:∀l:List Re,bndL l=true->0<=growns l
 | [],_=>by unfold growns;omega
 | x::r,hb=>by
   unfold bndL at hb;rw[Bool.and_eq_true]at hb;have:=Lf x hb.1;have:=Er r hb.2;unfold growns;omega
end
theorem Oe:∀a b:List Re,growns (a++b)=growns a+growns b
 | [],b=>by rw[List.nil_append,growns];omega
 | x::r,b=>by rw[List.cons_append,growns,growns,Oe r b];omega
theorem mul_ge {a c n:Int} (b:1<=a) (e:c<=n) (d:0<=c):c<=a*n:=by
 have g:=Int.mul_le_mul b e d (by omega:0<=a);omega
theorem Xt {c n l h:Int} (o:1<=c) (x:0<=n) (j:counted l h=true):min c (weight (min c n) l h)=min c (weight n l h):=by
 by_cases hle:n<=c
 · rw[show min c n=n by omega]
 ·have e:min c n=c:=by omega
  rw[e];obtain⟨i,t,u⟩:=Ew j;have a:∀m:Int,c<=m->(h=0->False)->c<=weight m l h:=by
   intro m d b;have g:h≠0:=fun e=>b e;unfold weight;split
   · omega
   ·split
    · omega
    ·rename_i A B
     ·split
      ·have:=mul_ge (show (1:Int)<=l by omega) d (by omega)
       omega
      ·split
       ·have:=mul_ge (show (1:Int)<=l by omega) d (by omega)
        omega
       ·have y:=Int.mul_nonneg i (show (0:Int)<=m by omega)
        have z:=mul_ge (show (1:Int)<=h-l by omega) (show c<=m+1 by omega) (by omega);omega
  by_cases b:h=0
  ·have p:l=0:=by omega
   subst b p;simp[weight]
  ·have q:=a c (by omega) b
   have r:=a n (by omega) b;omega
theorem cap_add {c a b:Int} (d:0<=a) (e:0<=b) (g:0<=c):min c (min c a+min c b)=min c (a+b):=by omega
end MatchMath
namespace ReMem
open Go Go.RowKit MatchMath Strs
theorem mul_le_64 {l n:Int} (a:0<=l) (b:l<=64) (n0:0<=n) (n1:n<=1073741824):0<=l*n/\l*n<=68719476736:=by
 refine⟨Int.mul_nonneg a n0,?_⟩;have:=Int.mul_le_mul b n1 n0 (by omega);omega
theorem weight_any (n l h:Int) (w:World) (t:0<=n) (u:n<=1073741824) (p:0<=l) (q:l<=64) (b:h= -1\/(l<=h/\h<=64)):
  Calls Tryz.prog 162 #[.int .i64 n,.int .i64 l,.int .i64 h] w fun r w'=>r=.returned (.int .i64 (weight n l h))/\qw w w':=by
 have a:Hid (weight n l h=if l=0/\(h=1\/h= -1)\/l=1/\h= -1 then n+1 else if h=0 then 1 else if l=1/\h=1 then n else if h=l then 1+l*n else if h= -1 then 2+l*n else 1+l*n+(h-l)*(n+1)):=rfl;obtain⟨D,E⟩:=mul_le_64 p q t u;have c:h= -1\/(0<=(h-l)*(n+1)/\(h-l)*(n+1)<=68719476800):=by
  rcases b with b | ⟨M,N⟩
  · exact .inl b
  ·refine .inr ⟨Int.mul_nonneg (by omega) (by omega),?_⟩
   have:=Int.mul_le_mul (show h-l<=64 by omega) (show n+1<=1073741825 by omega) (by omega) (by omega);omega
 have x:Hid (∃R,R=weight n l h):=⟨_,rfl⟩;obtain⟨R,B⟩:=x.o;rw[<- B]at a ⊢;clear B x;rcases (by omega:(l=0/\h=1)\/h= -1\/h=0\/(l=1/\h=1)\/(h≠ -1/\h≠0/\h≠1/\h=l)\/(h≠ -1/\h≠0/\h≠1/\h≠l)) with ⟨rfl,rfl⟩ | rfl | rfl | ⟨rfl,rfl⟩ | ⟨d,e,g,rfl⟩ | ⟨d,e,g,C⟩
 ·have HR:Hid (R=n+1):=by have:=a.o;rw[if_pos (by omega)]at this;exact this
  clear a b c;go_enter func162,ntmps162;go_wp2;go_ret;exact⟨by rw[HR.o];rfl,Below.refl _ _⟩
 ·by_cases hl:l<=1
  ·rcases (by omega:l=0\/l=1) with rfl | rfl
   all_goals
    have HR:Hid (R=n+1):=by have:=a.o;rw[if_pos (by omega)]at this;exact this
    clear a b c;go_enter func162,ntmps162;go_wp2;go_ret;exact⟨by rw[HR.o];rfl,Below.refl _ _⟩
  ·have HR:Hid (R=2+l*n):=by have:=a.o;rw[if_neg (by omega),if_neg (by omega),if_neg (by omega),if_neg (by omega),if_pos rfl]at this;exact this
   have y:(l==0)=false:=by simp;omega
   have z:(l==1)=false:=by simp;omega
   have A:((-1:Int)==l)=false:=by simp;omega
   clear a b c;go_enter func162,ntmps162;go_wp2;go_ret;exact⟨by rw[HR.o];rfl,Below.refl _ _⟩
 ·rcases (by omega:l=0) with rfl
  have HR:Hid (R=1):=by have:=a.o;rw[if_neg (by omega),if_pos rfl]at this;exact this
  clear a b c;go_enter func162,ntmps162;go_wp2;go_ret;exact⟨by rw[HR.o];rfl,Below.refl _ _⟩
 ·have HR:Hid (R=n):=by have:=a.o;rw[if_neg (by omega),if_neg (by omega),if_pos ⟨rfl,rfl⟩]at this;exact this
  clear a b c;go_enter func162,ntmps162;go_wp2;go_ret;exact⟨by rw[HR.o];rfl,Below.refl _ _⟩
 ·have HR:Hid (R=1+h*n):=by have:=a.o;rw[if_neg (by omega),if_neg (by omega),if_neg (by omega),if_pos rfl]at this;exact this
  have y:(h==0)=false:=by simp[e]
  have z:(h==1)=false:=by simp[g]
  have A:(h== -1)=false:=by simp[d]
  clear a b c d e g;go_enter func162,ntmps162;go_wp2;go_ret;exact⟨by rw[HR.o];rfl,Below.refl _ _⟩
 ·have i:=c.resolve_left d
  obtain⟨G,I⟩:=i;have HR:Hid (R=1+l*n+(h-l)*(n+1)):=by have:=a.o;rw[if_neg (by omega),if_neg (by omega),if_neg (by omega),if_neg (by omega),if_neg (by omega)]at this;exact this
  have y:(h==0)=false:=by simp[e]
  have z:(h==1)=false:=by simp[g]
  have A:(h== -1)=false:=by simp[d]
  have J:(h==l)=false:=by simp[C]
  have j:0<=h-l:=by omega
  have m:h-l<=64:=by omega
  clear a b c d e g C;by_cases c1:l=0
  ·subst c1
   rw[Int.zero_mul,Int.sub_zero]at HR;rw[Int.sub_zero]at G I j m;clear D E;go_enter func162,ntmps162;go_wp2;go_ret;exact⟨by rw[HR.o];(try simp);try rfl,Below.refl _ _⟩
  ·have K:(l==0)=false:=by simp[c1]
   by_cases c2:l=1
   ·subst c2
    go_enter func162,ntmps162;go_wp2;go_ret;exact⟨by rw[HR.o];(try simp);try rfl,Below.refl _ _⟩
   ·have L:(l==1)=false:=by simp[c2]
    clear c1 c2;go_enter func162,ntmps162;go_wp2;go_ret;exact⟨by rw[HR.o];rfl,Below.refl _ _⟩
end ReMem
namespace ReMem
open Go Go.RowKit MatchMath Strs
theorem Sz {l:List Re} {q:Nat} {t:Re} (h:l[q]? =some t):growns (l.take (q+1))=growns (l.take q)+grown t:=by
 rw[Bt h,Oe,growns,growns,Int.add_zero]
theorem Rd:∀(l:List Re) (q:Nat),bndL l=true->bndL (l.take q)=true
 | [],q,h=>by rw[List.take_nil];exact h
 | x::r,0,h=>by rw[List.take_zero,bndL]
 |x::r,q+1,h=>by
  rw[List.take_succ_cons,bndL];rw[bndL,Bool.and_eq_true]at h;rw[h.1,Rd r q h.2];rfl
theorem gomin (a:Int):(if a<1073741824 then a else 1073741824)=min 1073741824 a:=by split <;> omega
theorem weigh_any:∀(n:Nat) (e:Re) (v:Value) (w:World),size e<n->bnd e=true->Ag e->Lies w v e.args->
  Calls Tryz.prog 120 #[Ac v e] w fun r w'=>r=.returned (.int .i64 (min 1073741824 (grown e)))/\qw w w':=by
 intro n
 induction n with
 | zero=>intro e v w hn;omega
 |succ n ih=>
  intro e v w hn L O hl;obtain⟨o,p,l,h,g,args⟩:=e;obtain⟨a,c,vs,rfl,⟨a3,a2⟩,ho⟩:=hl.opened;have IH:=qh (fun t v W (T:t∈args)=>ih t v W (Nat.lt_of_lt_of_le (Bo (e:=.mk o p l h g args) T) (Nat.le_of_lt_succ hn)));clear ih hn hl;rw[bnd,Bool.and_eq_true]at L;obtain⟨K,A⟩:=L;have E:=qh A;have I:Hid (grown (.mk o p l h g args)=if o=5 then weight (growns args) l h else growns args+1):=by show _=_;rw[grown]
  have b0:=Er args A;unfold Ac;simp only[Re.op,Re.set,Re.lo,Re.hi,Re.group,Re.args]at*;have a9:args.length<=9223372036854775807:=Nat.le_trans a3 a2;have HO:=qh ho;clear ho O A;generalize grown (.mk o p l h g args)=R at*;generalize Sets.Aa p 0=x0 at*;generalize Sets.Aa p 1=x1 at*;generalize Sets.Aa p 2=x2 at*;generalize Sets.Aa p 3=x3 at*;have HB:=qh (qb w (.cells #[.int .i64 o,.int .u64 x0,.int .u64 x1,.int .u64 x2,.int .u64 x3,.int .i64 l,.int .i64 h,.int .i64 g,.slice a args.length c] 28));have J:=qh (Box9.new w o x0 x1 x2 x3 l h g (.slice a args.length c) 28);have U:=qh K;clear K;go_enter func120,ntmps120;go_wp2
  go_loopw [3,9] (fun m i wr=>∃q:Nat,q<=args.length/\i=.int .i64 q/\m=.int .i64 (min 1073741824 (growns (args.take q)))/\qw w wr/\Box9 wr w.heap.size o x0 x1 x2 x3 l h g (.slice a args.length c)) (fun _ i _=>args.length-(intOf i).toNat)
  case atStart=>exact⟨0,Nat.zero_le _,rfl,by rw[List.take_zero,growns];rfl,HB.o,J.o⟩
  case round=>
   obtain⟨q,hq,rfl,rfl,S,M⟩:=hrel;have V:=qh M;have x:=qh S;obtain⟨d0,d1,d2,d3,d4,d5,d6,d7,d8,d9⟩:=M;have d:=Er _ (Rd args q E.o);have a5:0<=min 1073741824 (growns (args.take q)):=by omega
   have a6:min 1073741824 (growns (args.take q))<=1073741824:=by omega
   by_cases hlt:q<args.length
   ·obtain⟨t,v,b,off,T,hv,rfl,⟨k0,k1,k2,k3,k4,k5,k6,k7,k8⟩,D,P,hm⟩:=(HO.o.stays S).at hlt
    have a4:(q:Int)< (args.length:Int):=by omega
    have B:=Vd E.o hm;have Q:=Lf t B;have HC:=qh (fun W (hw:qw wr W)=>IH.o t v W hm B P (D.stays hw));have Y:Hid (min 1073741824 (min 1073741824 (growns (args.take q))+min 1073741824 (grown t))=min 1073741824 (growns (args.take (q+1)))):=by show _=_;rw[Sz T];exact cap_add d Q (by omega)
    have b1:0<=min 1073741824 (grown t):=by omega
    have b2:min 1073741824 (grown t)<=1073741824:=by omega
    unfold Ac at HC;obtain⟨va,vc,rfl⟩:=D.shape;clear T hv P D hm S B d Q;generalize min 1073741824 (growns (args.take q))=z at*;generalize min 1073741824 (grown t)=y at*
    go_wp2_with (go_at_call 120
                 (refine (HC.o _ ((Below.refl _ wr).alloc ql _)).mono ?_);rintro e w3 ⟨rfl,j⟩;have u:=qh (Ab x.o (Ab ((Below.refl _ wr).alloc ql _) j));have G:=qh (V.o.stays (Ab ((Below.refl _ wr).alloc ql _) j)))
    go_roundw
    case rel=>exact⟨q+1,by omega,by go_num,by rw[<- Y.o];(try rw[gomin]),u.o,G.o⟩
    case measure=>simp[intOf];omega
   ·have a4:¬(q:Int)< (args.length:Int):=by omega
    have N:q=args.length:=by omega
    have X:Hid (growns (args.take q)=growns args):=by show _=_;rw[N,List.take_length]
    have a7:=qh d;clear S N;by_cases h5:o=5
    ·subst h5
     have C:counted l h=true:=by have:=U.o;rw[if_pos rfl]at this;exact this
     obtain⟨q1,q2,q3⟩:=Ew C;have a1:=qh (fun W=>weight_any (min 1073741824 (growns (args.take q))) l h W a5 a6 q1 q2 q3);have a0:Hid (min 1073741824 (weight (min 1073741824 (growns (args.take q))) l h)=min 1073741824 R):=by
      show _=_;have:=I.o;rw[if_pos rfl]at this;rw[X.o,Xt (by omega) (by rw[<- X.o];exact d) C,this]
     clear d C q1 q2 q3;generalize min 1073741824 (growns (args.take q))=z at*;generalize weight z l h=y at*
     go_wp2_with (go_at_call 162
                  (refine (a1.o _).mono ?_);rintro e w3 ⟨rfl,j⟩;have u:=qh (Ab x.o j))
     all_goals
      go_ret;exact⟨by rw[<- a0.o];exact congrArg (fun z=>Ending.returned (.int .i64 z)) (by omega),u.o⟩
    ·have a8:(o==5)=false:=by simp[h5]
     have HR:Hid (min 1073741824 (min 1073741824 (growns (args.take q))+1)=min 1073741824 R):=by
      show _=_;have:=I.o;rw[if_neg h5]at this;rw[X.o,this];omega
     clear h5 d;generalize min 1073741824 (growns (args.take q))=z at*;go_wp2;all_goals
      go_ret;exact⟨by rw[<- HR.o];exact congrArg (fun z=>Ending.returned (.int .i64 z)) (by omega),x.o⟩
end ReMem
namespace MatchMath
mutual
def gok (k:Nat):Re->Bool
 | .mk o s l h g args=>(shaped (.mk o s l h g args)&&((if o=5 then counted l h else true)&&(if o=6\/o=9 then decide (1<=g/\g<=(k:Int)) else true)))&&gokL k args
def gokL (k:Nat):List Re->Bool
 | []=>true
 | x::r=>gok k x&&gokL k r
end
theorem Bk {k:Nat}:∀ {l:List Re} {t:Re},gokL k l=true->t∈l->gok k t=true
 | [],_,_,h=>by cases h
 |x::r,t,hb,h=>by
  unfold gokL at hb;rw[Bool.and_eq_true]at hb;rcases List.mem_cons.1 h with rfl | h
  · exact hb.1
  · exact Bk hb.2 h
theorem byEnd_len (n:Nat) (l:List Parse):(Br n l).length<=l.length:=by
 have:=ReMem.Kw l n (n+1) ql;rw[ReMem.Vi]at this;omega
theorem lim_len {l m:List Parse} (h:lim l=some m):m.length<=4096:=by
 unfold lim at h;split at h
 · cases h
 ·rename_i a
  cases h
  unfold most at a;omega
theorem Hr {n:Nat} {l m:List Parse} (h:done n l=some m):m.length<=4096:=by
 unfold done at h;cases hl:lim (dd l) with
 | none=>rw[hl]at h;cases h
 |some x=>
  rw[hl]at h;simp only[Option.map_some,Option.some.injEq]at h;subst h;exact Nat.le_trans (byEnd_len n x) (lim_len hl)
theorem Jv {n:Nat} {o:Option (List Parse)} {m:List Parse} (h:o.bind (done n)=some m):m.length<=4096:=by
 cases o with
 | none=>cases h
 | some x=>exact Hr h
theorem Ej (T:Text) (e:Re) (i:Nat) (l:List Span) (m:List Parse) (h:T.parses e i l=some m):m.length<=4096:=by
 obtain⟨o,s,lo,hi,g,args⟩:=e;unfold Text.parses Text.node at h;simp only at h;split at h
 · exact Hr h
 ·split at h
  · exact Hr h
  ·split at h
   · exact Jv h
   ·split at h
    · exact Jv h
    ·split at h
     · exact Jv h
     ·split at h
      ·split at h
       ·rename_i f r a
        cases hx:f i l with
        | none=>rw[hx]at h;cases h
        | some x=>rw[hx]at h;exact Hr h
       · exact Hr h
      ·split at h
       · exact Hr h
       ·split at h
        · exact Hr h
        ·split at h
         · exact Hr h
         ·cases h
          exact Nat.zero_le _
theorem catFrom_cons (f:F) (a:List F) (out:List Parse):Cs (f::a) out=(Df f out []).bind (Cs a):=by
 rw[collectR_lim];show ((collect f out).bind fun next=>(lim (dd next)).bind (Cs a))=_;cases collect f out <;> rfl
theorem Jf (l m:List Parse) (x:Parse):An l (m++ [x])=addU (An l m) x:=by simp[An]
theorem Ih {l:List Parse} (h:l.Nodup) (m:List Parse):(An l m).Nodup:=Mu m l h
theorem mem_addAll {l m:List Parse} {x:Parse}:x∈An l m↔x∈l\/x∈m:=Ro m l x
theorem addU_len (l:List Parse) (x:Parse):(addU l x).length<=l.length+1:=by unfold addU;split <;> simp
theorem Et:∀(m l:List Parse),(An l m).length<=l.length+m.length
 | [],l=>ql
 |x::r,l=>by
  show (An (addU l x) r).length<=_;have h1:=Et r (addU l x);have a:=addU_len l x;simp only[List.length_cons];omega
theorem Ga {α:Type} {l:List α} {q:Nat} {t:α} (h:l[q]? =some t):l.drop q=t::l.drop (q+1):=by
 obtain⟨a,rfl⟩:=List.getElem?_eq_some_iff.1 h;exact List.drop_eq_getElem_cons a
end MatchMath
namespace ReMem
open Go Go.RowKit MatchMath
structure GoodL (n k i:Nat) (l:List Parse):Prop where
 nd:l.Nodup
 len:l.length<=4096
 ok:∀p∈l,POk n k i p
theorem GoodL.nil (n k i:Nat):GoodL n k i []:=⟨List.nodup_nil,Nat.zero_le _,fun p hp=>by cases hp⟩
theorem GoodL.one {n k i:Nat} {p:Parse} (h:POk n k i p):GoodL n k i [p]:=⟨by simp,by simp,fun q hq=>by obtain rfl:=List.mem_singleton.1 hq;exact h⟩
def Apart (u v:Value):Prop:=∀b,u.ownBlock=some b->v.ownBlock=some b->False
theorem Apart.near {u v e:Value} {B:Nat} (h:Apart u v) (a:Near B v e) (g:∀b,u.ownBlock=some b->b<B):Apart u e:=by
 intro b c d;rcases a with a | a
 · exact h b c (by rw[<- a];exact d)
 ·have:=a b d
  have:=g b c;omega
theorem Apart.new {u v:Value} {B:Nat} (a:∀b,u.ownBlock=some b->B<=b) (c:∀b,v.ownBlock=some b->b<B):Apart u v:=fun b h1 h2=>by
 have:=a b h1;have:=c b h2;omega
theorem Apart.nil (u:Value):Apart u (.slice none 0 0):=fun b _ h=>by cases h
structure TBox (w:World) (b:Nat) (s:ByteArray) (ln:Bool):Prop where
 t0:w.cell? ⟨b,0,none⟩=some (.string s)
 t1:w.cell? ⟨b,1,none⟩=some (.bool ln)
 lt:b<w.heap.size
theorem TBox.chg {C:Nat->Prop} {w d:World} {b:Nat} {s:ByteArray} {c:Bool} (q:TBox w b s c) (h:Chg C w d) (a:¬C b):TBox d b s c:=⟨h.cell q.t0 a,h.cell q.t1 a,Nat.lt_of_lt_of_le q.lt h.size⟩
theorem TBox.stays {w c:World} {b:Nat} {s:ByteArray} {a:Bool} (q:TBox w b s a) (h:qw w c):TBox c b s a:=q.chg (Chg.of (C:=fun _=>False) h) (fun h=>h)
theorem TBox.new (w:World) (s:ByteArray) (b:Bool) (t:TypeId):TBox (w.alloc (.cells #[.string s,.bool b] t)) w.heap.size s b:=by
 have a:=heap_alloc_new w (.cells #[.string s,.bool b] t);exact⟨by rw[qc a];rfl,by rw[qc a];rfl,(qd a)⟩
theorem TBox.drewN {w:World} {b:Nat} {s:ByteArray} {a:Bool} (q:TBox w b s a) (n:Nat):TBox (w.drewN n) b s a:=⟨q.t0,q.t1,q.lt⟩
def Uv (s:ByteArray) (ln:Bool) (k n:Nat):Prop:=∀(e:Re) (v sv:Value) (i:Nat) (l:List Span) (w:World),size e<n->gok k e=true->Ag e->Lies w v e.args->Al w sv l->l.length=k->SpOk s.size l->i<=s.size->
 Calls Tryz.prog 89 #[.agg #[.string s,.bool ln],Ac v e,.int .i64 i,sv] w (RRes w ((tx s ln).parses e i l))
theorem PRow.one (w:World) (p:Parse) (b:Value) (h:Al w b p.2):PRow (w.alloc (.cells #[.int .i64 (p.1:Int),b] 119)) w.heap.size (.slice (some ⟨w.heap.size,0,none⟩) 1 1) [p]:=by
 refine⟨[b],rfl,⟨rfl,.inr ⟨w.heap.size,1,_,_,rfl,ql,heap_alloc_new w _,.inl rfl,ql,by unfold maxLen;omega,rfl,rfl⟩⟩,fun j q u a c=>?_⟩;have e:j=0:=by
  have:=(List.getElem?_eq_some_iff.1 a).1;simp only[List.length_singleton]at this;omega
 subst e;simp only[List.getElem?_cons_zero,Option.some.injEq]at a c;subst a c;exact h.stays ((Below.refl _ w).alloc ql _)
theorem RRes.of {w d c:World} {o:Option (List Parse)} {r:Ending} (h:RRes d o r c) (b:qw w d):RRes w o r c:=by
 refine⟨?_,Ab b h.2⟩;have a:=h.1;cases o with
 | none=>exact a
 |some l=>
  obtain⟨v,e,g⟩:=a;exact⟨v,e,g.mono b.size⟩
end ReMem
namespace ReMem
open Go Go.RowKit MatchMath
theorem equal_any (u v:Value) (l m:List Span) (w:World) (B:Al w u l) (C:Al w v m):
  Calls Tryz.prog 36 #[u,v] w fun r w'=>r=.returned (.bool (decide (l=m)))/\qw w w':=by
 obtain⟨ua,uc,rfl⟩:=B.shape;obtain⟨va,vc,rfl⟩:=C.shape;have t:=B.len.2;have L:=C.len.2;have T:=qh B;have U:=qh C;clear B C;by_cases hn:l.length=m.length
 ·have X:=qh hn
  have b:((l.length:Int)==(m.length:Int))=true:=by simp;omega
  have d:(l.length:Int)=(m.length:Int):=by omega
  have g:(l.length:Int)<=9223372036854775807:=by have a:=t;unfold maxLen at a;omega
  obtain⟨n,h⟩:∃n,l.length=n:=⟨_,rfl⟩;have i:m.length=n:=by omega
  have Q:=qh h;have R:=qh i;rw[h]at t b d g T ⊢;rw[i]at L b d U ⊢;clear hn h i X b d;go_enter func36,ntmps36;go_wp2
  go_loopw [13] (fun O wr=>∃j:Nat,j<=n/\O=.int .i64 j/\Hid (∀q,q<j->l[q]? =m[q]?)/\qw w wr) (fun O _=>n-(intOf O).toNat)
  case atStart=>exact⟨0,Nat.zero_le _,rfl,fun q W=>by omega,Below.refl _ _⟩
  case round=>
   obtain⟨j,hj,rfl,S,p⟩:=hrel;have z:=qh p;by_cases hjt:j<n
   ·have K:(j:Int)< (n:Int):=by omega
    have P:=qh hjt;obtain⟨x,M⟩:∃x,l[j]? =some x:=⟨_,List.getElem?_eq_getElem (by have:=Q.o;omega)⟩;obtain⟨y,N⟩:∃y,m[j]? =some y:=⟨_,List.getElem?_eq_getElem (by have:=R.o;omega)⟩;obtain⟨b1,o1,Y,p1,p2⟩:=(T.o.stays p).at M;obtain⟨b2,o2,e2,q1,q2⟩:=(U.o.stays p).at N;subst Y e2;have J:=qh M;have V:=qh N;clear p M N;obtain⟨D,E⟩:=x;obtain⟨G,I⟩:=y;simp only at p1 p2 q1 q2;by_cases hxy:D=G/\E=I
    ·obtain⟨rfl,rfl⟩:=hxy
     go_wp2
     go_quiet (fail)
     go_wp2;go_roundw
     case rel=>
      refine⟨j+1,P.o,by go_num,fun q W=>?_,Base.Ba z.o _⟩;by_cases e:q=j
      ·subst e
       rw[J.o,V.o]
      · exact S.out q (by omega)
     case measure=>have:=P.o;simp[intOf];omega
    ·have HR:Hid (decide (l=m)=false):=by
      show _=_;rw[decide_eq_false_iff_not];intro e;rw[e,V.o]at J;have a:=Option.some.inj J;injection a with a A;exact hxy ⟨a.symm,A.symm⟩
     have c:((D==G)&&(E==I))=false:=by
      rw[Bool.eq_false_iff];intro e;simp only[Bool.and_eq_true,beq_iff_eq]at e;exact hxy e
     by_cases a:D=G
     ·subst a
      have A:¬E=I:=fun e=>hxy ⟨rfl,e⟩;have c2:(E==I)=false:=by simp[A]
      clear hxy A c;go_wp2
      go_quiet (fail)
      go_wp2;go_ret;exact⟨by rw[HR.o];rfl,Base.Ba z.o _⟩
     ·have c1:(D==G)=false:=by simp[a]
      clear hxy a c;go_wp2
      go_quiet (fail)
      go_wp2;go_ret;exact⟨by rw[HR.o];rfl,Base.Ba z.o _⟩
   ·have K:¬(j:Int)< (n:Int):=by omega
    have HR:Hid (decide (l=m)=true):=by
     show _=_;rw[decide_eq_true_iff];refine List.ext_getElem? fun q=>?_;by_cases W:q<n
     · exact S.out q (by omega)
     · rw[List.getElem?_eq_none (by have:=Q.o;omega),List.getElem?_eq_none (by have:=R.o;omega)]
    clear p;go_wp2;go_ret;exact⟨by rw[HR.o];rfl,z.o⟩
 ·have HR:Hid (decide (l=m)=false):=by
   show _=_;rw[decide_eq_false_iff_not];intro e;exact hn (by rw[e])
  have b:((l.length:Int)==(m.length:Int))=false:=by simp;omega
  have a0:(l.length==m.length)=false:=by simp;omega
  go_enter func36,ntmps36;go_wp2;go_ret;exact⟨by rw[HR.o];rfl,Below.refl _ _⟩
theorem same_any (u v:Value) (l m:List Span) (w:World) (b:Al w u l) (c:Al w v m):
  Calls Tryz.prog 18 #[.agg #[u],.agg #[v]] w fun r w'=>r=.returned (.bool (decide (l=m)))/\qw w w':=by
 have g:=qh (fun W (hw:qw w W)=>equal_any u v l m W (b.stays hw) (c.stays hw));obtain⟨j,n,rfl⟩:=b.shape;obtain⟨p,q,rfl⟩:=c.shape;have h:=b.len.2;have i:=c.len.2;have e:=qh ((qb w (.cells #[.slice j l.length n] 42)).alloc (by simp) (.cells #[.slice p m.length q] 42));clear b c;go_enter func18,ntmps18;go_wp2_with (first
  | (go_at_call 36
     (refine (g.o _ e.o).mono ?_);rintro t x ⟨rfl,a⟩;have d:=qh (Ab e.o a);clear a))
 go_ret;exact⟨rfl,d.o⟩
end ReMem
namespace ReMem
open Go Go.RowKit MatchMath
theorem SpRd.shape {w:World} {v:Value} {l:List Span} (h:SpRd w v l):∃a c,v=.slice a l.length c:=by obtain⟨a,c,rfl, -⟩:=h;exact⟨a,c,rfl⟩
theorem SpRd.at {w:World} {a:Option Addr} {n c:Nat} {l:List Span} (h:SpRd w (.slice a n c) l) {j:Nat} {x:Span} (d:l[j]? =some x):∃b off,a=some ⟨b,off,none⟩/\w.cell? ⟨b,off+j*2,none⟩=some (.int .i64 x.1)/\w.cell? ⟨b,off+j*2+1,none⟩=some (.int .i64 x.2):=by
 obtain⟨o,p,e,g,i⟩:=h;injection e with e1 e2 e3;subst e1;obtain⟨b,off,rfl,m⟩:=i (by intro e;subst e;simp at d);exact⟨b,off,rfl,m j x d⟩
theorem SpRd.len {w:World} {a:Option Addr} {n c:Nat} {l:List Span} (h:SpRd w (.slice a n c) l):n=l.length/\l.length<=c/\c<=maxLen:=by
 obtain⟨d,g,e,b,i⟩:=h;injection e with e1 e2 e3;subst e3;exact⟨e2,b⟩
theorem equalR_any (u v:Value) (l m:List Span) (w:World) (B:SpRd w u l) (C:SpRd w v m):
  Calls Tryz.prog 36 #[u,v] w fun r w'=>r=.returned (.bool (decide (l=m)))/\qw w w':=by
 obtain⟨ua,uc,rfl⟩:=B.shape;obtain⟨va,vc,rfl⟩:=C.shape;have t:=B.len.2;have L:=C.len.2;have T:=qh B;have U:=qh C;clear B C;by_cases hn:l.length=m.length
 ·have X:=qh hn
  have b:((l.length:Int)==(m.length:Int))=true:=by simp;omega
  have d:(l.length:Int)=(m.length:Int):=by omega
  have g:(l.length:Int)<=9223372036854775807:=by have a:=t;unfold maxLen at a;omega
  obtain⟨n,h⟩:∃n,l.length=n:=⟨_,rfl⟩;have i:m.length=n:=by omega
  have Q:=qh h;have R:=qh i;rw[h]at t b d g T ⊢;rw[i]at L b d U ⊢;clear hn h i X b d;go_enter func36,ntmps36;go_wp2
  go_loopw [13] (fun O wr=>∃j:Nat,j<=n/\O=.int .i64 j/\Hid (∀q,q<j->l[q]? =m[q]?)/\qw w wr) (fun O _=>n-(intOf O).toNat)
  case atStart=>exact⟨0,Nat.zero_le _,rfl,fun q W=>by omega,Below.refl _ _⟩
  case round=>
   obtain⟨j,hj,rfl,S,p⟩:=hrel;have z:=qh p;by_cases hjt:j<n
   ·have K:(j:Int)< (n:Int):=by omega
    have P:=qh hjt;obtain⟨x,M⟩:∃x,l[j]? =some x:=⟨_,List.getElem?_eq_getElem (by have:=Q.o;omega)⟩;obtain⟨y,N⟩:∃y,m[j]? =some y:=⟨_,List.getElem?_eq_getElem (by have:=R.o;omega)⟩;obtain⟨b1,o1,Y,p1,p2⟩:=(T.o.stays p).at M;obtain⟨b2,o2,e2,q1,q2⟩:=(U.o.stays p).at N;subst Y e2;have J:=qh M;have V:=qh N;clear p M N;obtain⟨D,E⟩:=x;obtain⟨G,I⟩:=y;simp only at p1 p2 q1 q2;by_cases hxy:D=G/\E=I
    ·obtain⟨rfl,rfl⟩:=hxy
     go_wp2
     go_quiet (fail)
     go_wp2;go_roundw
     case rel=>
      refine⟨j+1,P.o,by go_num,fun q W=>?_,Base.Ba z.o _⟩;by_cases e:q=j
      ·subst e
       rw[J.o,V.o]
      · exact S.out q (by omega)
     case measure=>have:=P.o;simp[intOf];omega
    ·have HR:Hid (decide (l=m)=false):=by
      show _=_;rw[decide_eq_false_iff_not];intro e;rw[e,V.o]at J;have a:=Option.some.inj J;injection a with a A;exact hxy ⟨a.symm,A.symm⟩
     have c:((D==G)&&(E==I))=false:=by
      rw[Bool.eq_false_iff];intro e;simp only[Bool.and_eq_true,beq_iff_eq]at e;exact hxy e
     by_cases a:D=G
     ·subst a
      have A:¬E=I:=fun e=>hxy ⟨rfl,e⟩;have c2:(E==I)=false:=by simp[A]
      clear hxy A c;go_wp2
      go_quiet (fail)
      go_wp2;go_ret;exact⟨by rw[HR.o];rfl,Base.Ba z.o _⟩
     ·have c1:(D==G)=false:=by simp[a]
      clear hxy a c;go_wp2
      go_quiet (fail)
      go_wp2;go_ret;exact⟨by rw[HR.o];rfl,Base.Ba z.o _⟩
   ·have K:¬(j:Int)< (n:Int):=by omega
    have HR:Hid (decide (l=m)=true):=by
     show _=_;rw[decide_eq_true_iff];refine List.ext_getElem? fun q=>?_;by_cases W:q<n
     · exact S.out q (by omega)
     · rw[List.getElem?_eq_none (by have:=Q.o;omega),List.getElem?_eq_none (by have:=R.o;omega)]
    clear p;go_wp2;go_ret;exact⟨by rw[HR.o];rfl,z.o⟩
 ·have HR:Hid (decide (l=m)=false):=by
   show _=_;rw[decide_eq_false_iff_not];intro e;exact hn (by rw[e])
  have b:((l.length:Int)==(m.length:Int))=false:=by simp;omega
  have a0:(l.length==m.length)=false:=by simp;omega
  go_enter func36,ntmps36;go_wp2;go_ret;exact⟨by rw[HR.o];rfl,Below.refl _ _⟩
theorem Ns (u v:Value) (l m:List Span) (w:World) (b:SpRd w u l) (c:SpRd w v m):
  Calls Tryz.prog 18 #[.agg #[u],.agg #[v]] w fun r w'=>r=.returned (.bool (decide (l=m)))/\qw w w':=by
 have g:=qh (fun W (hw:qw w W)=>equalR_any u v l m W (b.stays hw) (c.stays hw));obtain⟨j,n,rfl⟩:=b.shape;obtain⟨p,q,rfl⟩:=c.shape;have h:=b.len.2;have i:=c.len.2;have e:=qh ((qb w (.cells #[.slice j l.length n] 42)).alloc (by simp) (.cells #[.slice p m.length q] 42));clear b c;go_enter func18,ntmps18;go_wp2_with (first
  | (go_at_call 36
     (refine (g.o _ e.o).mono ?_);rintro t x ⟨rfl,a⟩;have d:=qh (Ab e.o a);clear a))
 go_ret;exact⟨rfl,d.o⟩
end ReMem
end Go.Proofs.YtjefcpjciogcjaaGreatDoor
