/- Lemmas for the walk of the law, in 4 parts. No condition beyond what each states. -/
import Derived.Test.YtjefcpjciogcjaaGreatDoorG8
import Derived.Test.YtjefcpjciogcjaaGreatDoorG0
import Derived.DeepKeys3
import Derived.DeepKeys4
import Derived.Maps.OwnSet
import Derived.Test.YtjefcpjciogcjaaGreatDoorG10
import Derived.Test.YtjefcpjciogcjaaGreatDoorG5
import Derived.Test.YtjefcpjciogcjaaGreatDoorG4
import Derived.Test.YtjefcpjciogcjaaGreatDoorG7
import Derived.Deep.AppendLies
namespace Go.Proofs.YtjefcpjciogcjaaGreatDoor
set_option maxRecDepth 100000
set_option linter.unusedVariables false
set_option maxHeartbeats 16000000
open Tryz
namespace ReMem
open Go Go.RowKit Go.Maps Go.WideMaps MatchMath
theorem Xg:Keyed Tryz.prog 258:=Keyed.of_law (deep_law (m:=3) (by decide) (by kernel_rfl) (by kernel_rfl) (by kernel_rfl))
def Fv (c:Int) (p:Parse):Lit:=.string (keyBytes [.int .i64 c,.string (Bl p)])
def sitVal (c:Int) (p:Parse):Value:=.agg #[.int .i64 c,.string ⟨(Bl p).toArray⟩]
theorem keyText_len {p:Parse} (h:PFit p):(Bl p).length<=200000:=by
 have a:=Ou p.2 h.2.1;have b:=Kk (p.1:Int) (by omega) (by have:=h.2.2;omega);have c:=h.1;simp only[Bl,List.length_append];omega
theorem key_sit {c:Int} {p:Parse} (h:PFit p) (o:0<=c) (q:c<=4096):keyOf Tryz.prog 258 (sitVal c p)=some (Fv c p):=by
 have r:=keyText_len h;unfold keyOf sitVal Fv;rw[underlying258];have k1:Tryz.prog.keyType 258=true:=by kernel_rfl
 have k2:(Value.agg #[.int .i64 c,.string ⟨(Bl p).toArray⟩]).formed Tryz.prog 258=true:=by
  have a:Tryz.prog.cellsOf 258=2:=by kernel_rfl
  unfold Value.formed;rw[underlying258,a];rfl
 have k3:Tryz.prog.keyLits (Tryz.prog.types.size+1) 258 [.int .i64 c,.string ⟨(Bl p).toArray⟩]=some [.int .i64 c,.string (Bl p)]:=by
  have a:Tryz.prog.cellsOf 258=2:=by kernel_rfl
  have b:Tryz.prog.cellsOf 3=1:=by kernel_rfl
  have g:Tryz.prog.cellsOf 9=1:=by kernel_rfl
  have l:Tryz.prog.types.size=(Tryz.prog.types.size-1)+1:=by kernel_rfl
  have n:(Lit.int .i64 c).wf=true:=WalkArith.wf_i64 ⟨by omega,by omega⟩;have m:(⟨(Bl p).toArray⟩:ByteArray).size<=maxLen:=by simp[ByteArray.size];unfold maxLen;omega
  have i:∀d,Tryz.prog.keyLits (d+1) 3 [.int .i64 c]=some [.int .i64 c]:=fun d=>by
   unfold Program.keyLits;rw[underlying3];simp[n]
  have j:∀d,Tryz.prog.keyLits (d+1) 9 [.string ⟨(Bl p).toArray⟩]=some [.string (Bl p)]:=fun d=>by
   unfold Program.keyLits;rw[underlying9];simp[m]
  unfold Program.keyLits;rw[underlying258,a,l];simp[b,g,i,j]
 simp only[k1,k2,Bool.and_self,if_true];have e:(Value.agg #[.int .i64 c,.string ⟨(Bl p).toArray⟩]).cells.toList= [.int .i64 c,.string ⟨(Bl p).toArray⟩]:=rfl;rw[e,k3];rfl
theorem sitLit_inj {c d:Int} {p q:Parse} (j:PFit p) (l:PFit q) (b:0<=c/\c<=4096) (g:0<=d/\d<=4096) (h:Fv c p=Fv d q):(c,p)=(d,q):=by
 have e:=Xg.inj (key_sit j b.1 b.2) (h▸key_sit l g.1 g.2);unfold sitVal at e;injection e with e;have a:=congrArg Array.toList e;simp only at a;injection a with e2 e3;injection e2 with _ e2;injection e3 with e3 _;injection e3 with e3;injection e3 with e3;have i:Bl p=Bl q:=by
  have:=congrArg Array.toList e3;simpa using this
 rw[e2,Tc i]
def SFit (s:Sit):Prop:=0<=s.1/\s.1<=4096/\PFit s.2
def Sc (D:DataW Unit) (l:List Sit):Prop:=IsMap D/\(∀s:Sit,SFit s->D.atKey (Fv s.1 s.2) (.lit (.bool false))=.lit (.bool (decide (s∈l)))/\Maps.has D (Fv s.1 s.2)=decide (s∈l))/\Maps.size D=l.length/\∀s∈l,SFit s
theorem Sc.nil:Sc (.map []) []:=⟨isMap_empty,fun _ _=>⟨rfl,rfl⟩,rfl,fun s h=>by cases h⟩
theorem Sc.put {D:DataW Unit} {l:List Sit} (h:Sc D l) (o:Tidy D) (s:Sit) (c:SFit s) (n:s∉l):Sc (D.put (Fv s.1 s.2) (.lit (.bool true))) (l++ [s]):=by
 obtain⟨d,g,i,j⟩:=h;refine⟨d.put _ _,fun y a=>?_,?_,fun y a=>?_⟩
 ·by_cases e:y=s
  ·subst e
   rw[atKey_put_same d (show WideAt.IsKeyLit (Fv y.1 y.2) from trivial),has_put_same d (show WideAt.IsKeyLit (Fv y.1 y.2) from trivial)];simp
  ·have b:Fv y.1 y.2≠Fv s.1 s.2:=fun m=>e (by
    have:=sitLit_inj a.2.2 c.2.2 ⟨a.1,a.2.1⟩ ⟨c.1,c.2.1⟩ m;exact this)
   rw[atKey_put_other b,has_put_other b,(g y a).1,(g y a).2];simp[e]
 ·rw[size_put o,(g s c).2,decide_eq_false n]
  simp[i]
 ·rcases List.mem_append.1 a with a | a
  · exact j y a
  ·obtain rfl:=List.mem_singleton.1 a
   exact c
structure RS (w:World) (H mm:Nat) (s:ByteArray) (ln:Bool) (o:Int) (x0 x1 x2 x3:Nat) (lo hi g:Int) (av:Value) (ov:Value) (st:RSt):Prop where
 mt:w.heap[H]? =some (.cells #[.pointer (some ⟨mm,0,none⟩)] 146)
 box:w.heap[H+1]? =some (.cells #[.int .i64 o,.int .u64 x0,.int .u64 x1,.int .u64 x2,.int .u64 x3,.int .i64 lo,.int .i64 hi,.int .i64 g,av] 28)
 out:OBx w (H+2) ov st.2
 map:∃D,w.ownsMap Tryz.prog 258 (plainElem Tryz.prog 4) (H+3) st.1.length D/\Sc D st.1
 sn:w.heap[H+4]? =some (.cells #[.map (some (H+3))] 255)
 vt:w.heap[H+5]? =some (.cells #[.func (.func 204) #[] #[.pointer (some ⟨H+1,0,none⟩),.pointer (some ⟨H+4,0,none⟩),.pointer (some ⟨H,0,none⟩),.pointer (some ⟨H+5,0,none⟩),.pointer (some ⟨H+2,0,none⟩)]] 256)
def RC (H:Nat) (ov:Value) (k:Nat):Prop:=k=H+2\/k=H+3\/some k=ov.ownBlock
section
variable {w w':World} {H mm:Nat} {s:ByteArray} {ln:Bool} {o:Int} {x0 x1 x2 x3:Nat} {lo hi g:Int} {av ov:Value} {st:RSt}
theorem RS.stays (h:RS w H mm s ln o x0 x1 x2 x3 lo hi g av ov st) (a:qw w w'):RS w' H mm s ln o x0 x1 x2 x3 lo hi g av ov st:=by
 have up:∀ {k:Nat} {b:Obj},w.heap[k]? =some b->w'.heap[k]? =some b:=fun {k b} c=>(a.block k (qd c)).trans c;obtain⟨D,e,d⟩:=h.map;exact⟨up h.mt,up h.box,h.out.stays a,⟨D,Cq e (Chg.of (C:=fun _=>False) a) (fun h=>h),d⟩,up h.sn,up h.vt⟩
theorem RS.apart (h:RS w H mm s ln o x0 x1 x2 x3 lo hi g av ov st):∀k,ov.ownBlock=some k->k≠H/\k≠H+1/\k≠H+2/\k≠H+3/\k≠H+4/\k≠H+5/\H<k:=by
 intro k b;have c:=h.out.noOwn k b;obtain⟨u,r,hr,t⟩:=h.out.2;obtain⟨D,⟨p,d,n, -⟩, -⟩:=h.map;rcases hr.2 with ⟨e,_⟩ | ⟨m,j,l,fz,e,q,a,_⟩
 · rw[e]at b;cases b
 ·rw[e]at b
  have i:k=m:=by cases b;rfl
  subst i;refine⟨by omega,by omega,by omega,?_,?_,?_,by omega⟩
  · intro e;rw[e,n]at a;cases a
  ·intro e
   rw[e,h.sn]at a;injection a with a;injection a with _ c _;exact absurd c (by decide)
  ·intro e
   rw[e,h.vt]at a;injection a with a;injection a with _ c _;exact absurd c (by decide)
theorem RS.noSp (h:RS w H mm s ln o x0 x1 x2 x3 lo hi g av ov st):NoSp (RC H ov) w:=by
 intro b d fz e a;rcases e with rfl | rfl | e
 ·rw[h.out.1]at a
  injection a with a;injection a with _ h1 _;exact absurd h1 (by decide)
 ·obtain⟨D,⟨j,c,i, -⟩, -⟩:=h.map
  rw[i]at a;cases a
 · exact h.out.2.noSp b d fz e a
theorem RS.lt (h:RS w H mm s ln o x0 x1 x2 x3 lo hi g av ov st):H+5<w.heap.size:=(qd h.vt)
theorem RS.put (h:RS w H mm s ln o x0 x1 x2 x3 lo hi g av ov st) (i:Chg (fun b=>b=H+3) w w') {D:DataW Unit} {x:Sit} (n:w'.ownsMap Tryz.prog 258 (plainElem Tryz.prog 4) (H+3) (st.1.length+1) D) (q:Sc D (st.1++ [x])):RS w' H mm s ln o x0 x1 x2 x3 lo hi g av ov (st.1++ [x],st.2):=by
 have up:∀ {k:Nat} {d:Obj},k≠H+3->w.heap[k]? =some d->w'.heap[k]? =some d:=fun {k d} p j=>(i.block k (qd j) p).trans j;have c:NoSp (fun b=>b=H+3) w:=fun b a fz e m=>h.noSp b a fz (.inr (.inl e)) m;exact⟨up (by omega) h.mt,up (by omega) h.box,h.out.chg i c (by show ¬_;omega) (fun b l e=>(h.apart b l).2.2.2.1 e),⟨D,by rw[List.length_append];exact n,q⟩,up (by omega) h.sn,up (by omega) h.vt⟩
theorem RS.list (h:RS w H mm s ln o x0 x1 x2 x3 lo hi g av ov st) (t:Chg (RC H ov) w w') {d:Value} {l:List Parse} (y:OBx w' (H+2) d l) (m:w'.heap[H+3]? =w.heap[H+3]?):RS w' H mm s ln o x0 x1 x2 x3 lo hi g av d (st.1,l):=by
 have b:=h.apart;have up:∀ {k:Nat} {n:Obj},¬RC H ov k->w.heap[k]? =some n->w'.heap[k]? =some n:=fun {k n} x a=>(t.block k (qd a) x).trans a;have i:∀j,j≠2->j≠3->(∀k,ov.ownBlock=some k->k≠H+j)->¬RC H ov (H+j):=fun j z A a hr=>by
  rcases hr with e | e | e
  · omega
  · omega
  · exact a _ e.symm rfl
 obtain⟨D,⟨p,c,q,r⟩,u⟩:=h.map;exact⟨up (i 0 (by omega) (by omega) fun k a=>(b k a).1) h.mt,up (i 1 (by omega) (by omega) fun k a=>(b k a).2.1) h.box,y,⟨D,⟨p,c,m.trans q,r⟩,u⟩,up (i 4 (by omega) (by omega) fun k a=>(b k a).2.2.2.2.1) h.sn,up (i 5 (by omega) (by omega) fun k a=>(b k a).2.2.2.2.2.1) h.vt⟩
theorem RS.belowB (h:RS w H mm s ln o x0 x1 x2 x3 lo hi g av ov st) (a:Chg (RC H ov) w w') {B:Nat} (b:B<=H):Below B w w':=a.below (by have:=h.lt;omega) (fun k hk e=>by
 rcases e with e | e | e
 · omega
 · omega
 · have:=(h.apart k e.symm).2.2.2.2.2.2;omega)
theorem RS.behind (h:RS w H mm s ln o x0 x1 x2 x3 lo hi g av ov st) {k:Nat} (b:w.heap.size<=k):¬RC H ov k:=fun e=>by
 have a:=h.lt;rcases e with e | e | e
 · omega
 · omega
 · have:=(h.out.2.lt k e.symm).2;omega
theorem RC.sub {b a:Value} {H B k:Nat} (d:Near B b a) (c:k<B) (h:RC H a k):RC H b k:=by
 rcases h with h | h | h
 · exact .inl h
 · exact .inr (.inl h)
 · exact .inr (.inr (d.sub c h))
theorem RS.cells (h:RS w H mm s ln o x0 x1 x2 x3 lo hi g av ov st):Box9 w (H+1) o x0 x1 x2 x3 lo hi g av:=
 ⟨by rw[qc h.box];rfl,by rw[qc h.box];rfl,by rw[qc h.box];rfl,by rw[qc h.box];rfl,by rw[qc h.box];rfl,by rw[qc h.box];rfl,by rw[qc h.box];rfl,by rw[qc h.box];rfl,by rw[qc h.box];rfl,(qd h.box)⟩
end
end ReMem
namespace ReMem
open Go Go.RowKit MatchMath
theorem Kj:∀(a b:List Re),Bh (a++b)=Bh a++Bh b
 | [],b=>by simp[Bh]
 | x::a,b=>by rw[List.cons_append,Bh,Bh,Kj a b,List.append_assoc]
theorem Mn {l:List Re} {q:Nat} {t:Re} (h:l[q]? =some t):Bh (l.take (q+1))=Bh (l.take q)++Ap t:=by
 rw[Bt h,Kj,Bh,Bh,List.append_nil]
theorem cleared_any (k:Nat) (hk:k<=4096):∀(n:Nat) (e:Re) (v sv:Value) (l:List Span) (w:World),size e<n->gok k e=true->Ag e->Lies w v e.args->Al w sv l->l.length<=4096->Tabs w->
  Calls Tryz.prog 205 #[Ac v e,sv] w fun r w'=>(∃v',r=.returned v'/\Al w' v' (clear (Ap e) l))/\qw w w':=by
 intro n
 induction n with
 | zero=>intro e v sv l w hn;omega
 |succ n ih=>
  intro e v sv l w hn a5 a3 hl hs a9 I;obtain⟨o,p,lo,hi,g,args⟩:=e;obtain⟨a,c,vs,rfl,⟨a8,a6⟩,ho⟩:=hl.opened;have IH:=qh (fun t v sv l W (I:t∈args)=>ih t v sv l W (Nat.lt_of_lt_of_le (Bo (e:=.mk o p lo hi g args) I) (Nat.le_of_lt_succ hn)));rw[gok,Bool.and_eq_true,Bool.and_eq_true,Bool.and_eq_true]at a5;obtain⟨⟨-, -,S⟩,a4⟩:=a5;have a0:=qh a4;have a1:Hid (Ap (.mk o p lo hi g args)=(if o=6 then [g] else [])++Bh args):=by show _=_;rw[Ap]
  obtain⟨sa,sc,rfl⟩:=hs.shape;have b4:=hs.len.2;have HS:=qh hs;have N:=qh a9;have HT:=qh I;clear ih hn hl a4;unfold Ac;simp only[Re.op,Re.set,Re.lo,Re.hi,Re.group,Re.args]at*;have b3:args.length<=9223372036854775807:=Nat.le_trans a8 a6;have HO:=qh ho;clear ho a3 hs I;generalize Ap (.mk o p lo hi g args)=GO at*;generalize Sets.Aa p 0=x0 at*;generalize Sets.Aa p 1=x1 at*;generalize Sets.Aa p 2=x2 at*;generalize Sets.Aa p 3=x3 at*;have HB:=qh (qb w (.cells #[.int .i64 o,.int .u64 x0,.int .u64 x1,.int .u64 x2,.int .u64 x3,.int .i64 lo,.int .i64 hi,.int .i64 g,.slice a args.length c] 28));have a2:=qh (Box9.new w o x0 x1 x2 x3 lo hi g (.slice a args.length c) 28);by_cases h6:o=6
  ·subst h6
   have a7:1<=g/\g<=(k:Int):=by simpa using S
   have HW:=qh (fun W (B:qw w W)=>with_any (.slice sa l.length sc) l g (-1) (-1) W (HS.o.stays B) N.o (by omega));have b0:=HT.o.stays HB.o;obtain⟨-,n0,n1⟩:=b0;have L:Hid (clear GO l=clear (Bh args) (Di l g (-1, -1))):=by
    show _=_;rw[a1.o,if_pos rfl];rfl
   have z:Hid ((Di l g (-1, -1)).length<=4096):=by show _<=_;rw[Ha];exact N.o
   clear S a7;generalize Di l g (-1, -1)=l1 at*;go_enter func205,ntmps205;go_wp2_with (first
    | (go_at_call 169
       (refine (HW.o _ HB.o).mono ?_);rintro e1 w1 ⟨⟨v1,rfl,V⟩,R⟩;have J:=qh (Ab HB.o R);have m8:=(a2.o.stays R).d8;have O:=qh V;obtain⟨b1,b2,rfl⟩:=V.shape;clear R V))
   go_loopw [1,18] (fun vs vq wr=>∃(q:Nat) (l2:List Span) (d:Option Addr) (h:Nat),vs=.slice d l2.length h/\vq=.int .i64 (q:Int)/\q<=args.length/\Hid (clear (Bh (args.take q)) l1=l2)/\Hid (l2.length<=4096)/\Al wr (.slice d l2.length h) l2/\qw w wr) (fun _ vq _=>args.length-(intOf vq).toNat)
   case atStart=>exact⟨0,l1,b1,b2,rfl,rfl,Nat.zero_le _,by show _=_;rw[List.take_zero,Bh];rfl,z,O.o,J.o⟩
   case round=>
    obtain⟨q,l2,d,h,rfl,rfl,hq,y,i,u,B⟩:=hrel;have j:=qh B;have A:=qh u;by_cases hlt:q<args.length
    ·obtain⟨t,v,b,off,I,hv,rfl,⟨k0,k1,k2,k3,k4,k5,k6,k7,k8⟩,m,E,T⟩:=(HO.o.stays B).at hlt
     have U:(q:Int)< (args.length:Int):=by omega
     have G:=Bk a0.o T;have HC:=qh (fun W (hw:qw wr W)=>IH.o t v (.slice d l2.length h) l2 W T G E (m.stays hw) (A.o.stays hw) i.out (HT.o.stays (Ab j.o hw)));have Q:Hid (clear (Bh (args.take (q+1))) l1=clear (Ap t) l2):=by show _=_;rw[Mn I,Ps,y.out]
     have M:Hid ((clear (Ap t) l2).length<=4096):=by show _<=_;rw[Ef];exact i.out
     unfold Ac at HC;obtain⟨va,vc,rfl⟩:=m.shape;clear I hv E m T B G u;go_wp2_with (first
        | (go_at_call 205
           (refine (HC.o _ ((Below.refl _ wr).alloc ql _)).mono ?_);rintro e w3 ⟨⟨v3,rfl,x⟩,C⟩;have K:=qh (Ab j.o (Ab ((Below.refl _ wr).alloc ql _) C));have P:=qh x;obtain⟨X,Y,rfl⟩:=x.shape;clear x C))
     go_roundw
     case rel=>exact⟨q+1,clear (Ap t) l2,X,Y,rfl,by go_num,by omega,Q.o,M,P.o,K.o⟩
     case measure=>simp[intOf];omega
    ·have U:¬(q:Int)< (args.length:Int):=by omega
     have D:q=args.length:=by omega
     have HQ:Hid (clear GO l=l2):=by show _=_;rw[L.o,<-y.out,D,List.take_length]
     clear B D u;go_wp2;go_ret;exact⟨⟨_,rfl,by rw[HQ.o];exact A.o⟩,j.o⟩
  ·have b6:(o==6)=false:=by simp[h6]
   have L:Hid (clear GO l=clear (Bh args) l):=by
    show _=_;rw[a1.o,if_neg h6,List.nil_append]
   have z:=N;have J:=HB;have O:=qh (HS.o.stays HB.o);clear S h6;go_enter func205,ntmps205;go_wp2
   go_loopw [1,18] (fun vs vq wr=>∃(q:Nat) (l2:List Span) (d:Option Addr) (h:Nat),vs=.slice d l2.length h/\vq=.int .i64 (q:Int)/\q<=args.length/\Hid (clear (Bh (args.take q)) l=l2)/\Hid (l2.length<=4096)/\Al wr (.slice d l2.length h) l2/\qw w wr) (fun _ vq _=>args.length-(intOf vq).toNat)
   case atStart=>exact⟨0,l,sa,sc,rfl,rfl,Nat.zero_le _,by show _=_;rw[List.take_zero,Bh];rfl,z,O.o,J.o⟩
   case round=>
    obtain⟨q,l2,d,h,rfl,rfl,hq,y,i,u,B⟩:=hrel;have j:=qh B;have A:=qh u;by_cases hlt:q<args.length
    ·obtain⟨t,v,b,off,I,hv,rfl,⟨k0,k1,k2,k3,k4,k5,k6,k7,k8⟩,m,E,T⟩:=(HO.o.stays B).at hlt
     have U:(q:Int)< (args.length:Int):=by omega
     have G:=Bk a0.o T;have HC:=qh (fun W (hw:qw wr W)=>IH.o t v (.slice d l2.length h) l2 W T G E (m.stays hw) (A.o.stays hw) i.out (HT.o.stays (Ab j.o hw)));have Q:Hid (clear (Bh (args.take (q+1))) l=clear (Ap t) l2):=by show _=_;rw[Mn I,Ps,y.out]
     have M:Hid ((clear (Ap t) l2).length<=4096):=by show _<=_;rw[Ef];exact i.out
     unfold Ac at HC;obtain⟨va,vc,rfl⟩:=m.shape;clear I hv E m T B G u;go_wp2_with (first
        | (go_at_call 205
           (refine (HC.o _ ((Below.refl _ wr).alloc ql _)).mono ?_);rintro e w3 ⟨⟨v3,rfl,x⟩,C⟩;have K:=qh (Ab j.o (Ab ((Below.refl _ wr).alloc ql _) C));have P:=qh x;obtain⟨X,Y,rfl⟩:=x.shape;clear x C))
     go_roundw
     case rel=>exact⟨q+1,clear (Ap t) l2,X,Y,rfl,by go_num,by omega,Q.o,M,P.o,K.o⟩
     case measure=>simp[intOf];omega
    ·have U:¬(q:Int)< (args.length:Int):=by omega
     have D:q=args.length:=by omega
     have HQ:Hid (clear GO l=l2):=by show _=_;rw[L.o,<-y.out,D,List.take_length]
     clear B D u;go_wp2;go_ret;exact⟨⟨_,rfl,by rw[HQ.o];exact A.o⟩,j.o⟩
end ReMem
namespace ReMem
open Go Go.RowKit MatchMath Strs
theorem done_dd (n:Nat) (l:List Parse):done n (dd l)=done n l:=by unfold done;rw[dd_dd]
theorem Se (f:F) (c:List F) (i:Nat) (l:List Span) (p:List Parse):(De (f::c) i l).map (fun b=>p++b)=(f i l).bind fun a=>(De c i l).map fun b=>(p++a)++b:=by
 simp only[De];cases f i l with
 | none=>rfl
 |some a=>
  simp only[Option.bind_some,Option.map_map];cases De c i l with
  | none=>rfl
  | some b=>simp
theorem refAlt_any (s:ByteArray) (u:Bool) (k n:Nat) (hp:Uv s u k n) (args:List Re) (v sv:Value) (i:Nat) (l:List Span) (w:World) (f0:∀t∈args,size t<n) (e4:gokL k args=true) (hl:Lies w v args) (hs:Al w sv l) (e5:l.length=k) (e8:SpOk s.size l) (hi:i<=s.size) (h6:s.size<=4096) (i8:args.length<=100):
  Calls Tryz.prog 133 #[.agg #[.string s,.bool u],v,.int .i64 i,sv] w (RRes w ((De ((tx s u).parsesL args) i l).bind (done s.size))):=by
 obtain⟨a,c,vs,rfl,⟨h2,g9⟩,ho⟩:=hl.opened;obtain⟨sa,sc,rfl⟩:=hs.shape;have i7:args.length<=9223372036854775807:=Nat.le_trans h2 g9;have HP:=qh (fun t v sv i l w (ht:t∈args)=>hp t v sv i l w (f0 t ht) (Bk e4 ht));have HO:=qh ho;have HS:=qh hs;have g3:=qh e8;have f9:=qh e5;have a6:=qh Iy;have V:=qh (fun v l W=>Jr s u v l W h6);have i1:l.length<=9223372036854775807:=Nat.le_trans hs.len.2.1 hs.len.2.2;obtain⟨R,hR⟩:∃R,(De ((tx s u).parsesL args) i l)=R:=⟨_,rfl⟩;rw[hR];have HR:Hid ((De ((tx s u).parsesL args) i l).map (fun b=> []++b)=R):=by show _=_;rw[<- hR];simp
 have i6:Hid (s.size<=65536):=by show _<=_;omega
 have HI:=qh hi;clear hp ho hs e8 e5 hl hR f0 e4;have f6:=qh (qb w (.cells #[.string s,.bool u] 153));have g7:=qh (TBox.new w s u 153);have b4:Hid (w.heap.size+1<=(w.alloc (.cells #[.string s,.bool u] 153)).heap.size):=by show _<=_;simp
 go_enter func133,ntmps133;go_wp2
 go_loopw [10,11] (fun o ia wr=>∃(q:Nat) (nv:Value) (d:List Parse),q<=args.length/\ia=.int .i64 q/\nv=o/\PRow wr (w.heap.size+1) nv (An [] d)/\d.length<=q*4096/\(De ((tx s u).parsesL (args.drop q)) i l).map (fun b=>d++b)=R/\qw w wr/\TBox wr w.heap.size s u/\w.heap.size+1<=wr.heap.size) (fun _ ia _=>args.length-(intOf ia).toNat)
 case atStart=>exact⟨0,_,[],Nat.zero_le _,rfl,rfl,PRow.nil _ _,Nat.zero_le _,by rw[List.drop_zero];exact HR.o,f6.o,g7.o,b4.o⟩
 case round=>
  obtain⟨q,nv,d,hq,rfl,rfl,B,j0,d9,z,N,U⟩:=hrel;have a0:=qh B;have a9:=qh d9;have g:=qh z;have b6:=qh N;have h4:=Et d [];simp only[List.length_nil,Nat.zero_add]at h4;obtain⟨na,nc,rfl⟩:=B.form;obtain⟨t0,t1, -⟩:=N;clear B d9;generalize hnlv:An [] d=nl at*;have Y:=qh hnlv;clear hnlv;have i2:nl.length<=409600:=by omega
  have i3:(nl.length:Int)<=409600:=by omega
  by_cases hlt:q<args.length
  ·have h5:(q:Int)< (args.length:Int):=by omega
   have b0:=qh hlt;obtain⟨t,tv,b,off,ht,hv,e1,⟨x0,x1,x2,x3,x4,x5,x6,x7,x8⟩,a3,e2,hm⟩:=(HO.o.stays z).at hlt;subst e1;have C:Hid ((((tx s u).parses t i l).bind fun a=>(De ((tx s u).parsesL (args.drop (q+1))) i l).map fun b=>(d++a)++b)=R):=by
    show _=_;rw[<- Se];have h1:=a9.o;rw[Ga ht,Text.parsesL]at h1;exact h1
   have L:=qh (fun W (E:qw wr W)=>HP.o t tv (.slice sa l.length sc) i l W hm e2 (a3.stays E) (HS.o.stays (g.o.trans (E.mono g.o.size))) f9.o g3.o HI.o);unfold Ac at L;obtain⟨f3,f4,rfl⟩:=a3.shape;clear ht hv a3 e2 hm z;have G:=qh (fun W (E:qw wr W)=>And.intro (up9 E t0) (And.intro (up9 E t1) (And.intro (up9 E x0) (And.intro (up9 E x1) (And.intro (up9 E x2) (And.intro (up9 E x3) (And.intro (up9 E x4) (And.intro (up9 E x5) (And.intro (up9 E x6) (And.intro (up9 E x7) (up9 E x8)))))))))));cases hf:(tx s u).parses t i l with
   |none=>
    rw[hf]at L C;have g6:Hid (R=none):=by show _=_;rw[<- C.o];rfl
    clear hf;go_wp2
    go_region_held3 (fun w'=>w'.cell? ⟨w.heap.size,0,none⟩=some (.string s)/\w'.cell? ⟨w.heap.size,1,none⟩=some (.bool u)/\tS w' b (off+q*9) t f3 f4) (first | exact G.o _ (Below.refl _ _) | exact G.o _ ((Below.refl _ wr).drew) | exact G.o _ r.o)
     (first
     | (go_at_call 89
        (refine (L.o _ (by first | exact (Below.refl _ wr).drew | exact Below.refl _ wr)).mono ?_)
        rintro e w3 ⟨h3,h⟩;obtain rfl:=h3;have r:Hid (qw wr w3):=(by first | exact Ab ((Below.refl _ wr).drew) h | exact h)
        have I:=qh (Ab g.o r.o)))
    all_goals go_wp2
    all_goals go_ret2
    all_goals rw[g6.o]
    all_goals exact⟨rfl,I.o⟩
   |some m=>
    rw[hf]at L C;have X:=qh (Ej _ _ _ _ _ hf);clear hf;go_wp2
    go_region_held3 (fun w'=>w'.cell? ⟨w.heap.size,0,none⟩=some (.string s)/\w'.cell? ⟨w.heap.size,1,none⟩=some (.bool u)/\tS w' b (off+q*9) t f3 f4) (first | exact G.o _ (Below.refl _ _) | exact G.o _ ((Below.refl _ wr).drew) | exact G.o _ r.o)
     (first
     | (go_at_call 89
        (refine (L.o _ (by first | exact (Below.refl _ wr).drew | exact Below.refl _ wr)).mono ?_)
        rintro e w3 ⟨h3,h⟩;obtain⟨mv,rfl,A⟩:=h3;have g1:=qh (A.mono (by first | exact U))
        have g0:Hid (∀b,mv.ownBlock=some b->wr.heap.size<=b):=(fun b z=>(A.lt b z).1);have r:Hid (qw wr w3):=(by first | exact Ab ((Below.refl _ wr).drew) h | exact h)
        obtain⟨ma,mc,rfl⟩:=A.form;clear A h))
    have a7:Hid (Apart (.slice ma m.length mc) (.slice na nl.length nc)):=Apart.new g0.o (fun b z=>(a0.o.lt b z).2);have b1:=qh (a0.o.stays r.o);have b7:=qh (b6.o.stays r.o);have a8:=qh (Ab g.o r.o);have b5:=qh (Nat.le_trans U r.o.size);have i9:(m.length:Int)<=4096:=by have:=X.o;omega
    go_wp2
    go_loopw [10,14] (fun nx ic O=>∃(j:Nat) (Q:Value),j<=m.length/\ic=.int .i64 j/\Q=nx/\PRow O (w.heap.size+1) Q (An nl (m.take j))/\PRow O (w.heap.size+1) (.slice ma m.length mc) m/\Apart (.slice ma m.length mc) Q/\qw w O/\TBox O w.heap.size s u/\w.heap.size+1<=O.heap.size) (fun _ ic _=>m.length-(intOf ic).toNat)
    case atStart=>exact⟨0,_,Nat.zero_le _,rfl,rfl,b1.o,g1.o,a7.o,a8.o,b7.o,b5.o⟩
    case round=>
     obtain⟨j,Q,hj,rfl,rfl,a4,A,T,z,N,M⟩:=hrel;have p:=qh a4;have K:=qh A;have x:=qh T;have J:=qh z;have S:=qh N;obtain⟨f1,f2,rfl⟩:=a4.form;have a2:=Et (m.take j) nl;have h7:(m.take j).length<=m.length:=by rw[List.length_take];omega
     have b8:(An nl (m.take j)).length<=500000:=by have:=X.o;omega
     have b9:((An nl (m.take j)).length:Int)<=500000:=by omega
     clear a4 A T z N a2 h7;by_cases hjt:j<m.length
     ·have h0:(j:Int)< (m.length:Int):=by omega
      have a5:m[j]? =some m[j]:=List.getElem?_eq_getElem hjt;obtain⟨b3,i5,j1,e3,y1,y2,D⟩:=K.o.lies.at a5;obtain⟨h9,i0,rfl⟩:=D.shape;have i4:=D.len.2;have g8:Hid (An nl (m.take (j+1))=addU (An nl (m.take j)) m[j]):=by show _=_;rw[Bt a5,Jf]
      have f5:=qh (a6.o (.slice f1 (An nl (m.take j)).length f2) (.slice h9 m[j].2.length i0) (An nl (m.take j)) m[j] (w.heap.size+1) wr.drew (p.o.stays ((Below.refl _ wr).drew)) (D.stays ((Below.refl _ wr).drew)) M (by omega));subst e3;clear a5 D;generalize m[j]=y at*;obtain⟨ye,j2⟩:=y;simp only at*;go_wp2
      go_still_tail 11,(by kernel_rfl)
      change wpList _ _ _ _ _ wr.drew
      go_wp2_with (go_at_call 127
                   (refine f5.o.mono ?_);rintro e w4 ⟨⟨h8,rfl,e9,e6⟩,c9⟩;have g5:=qh e9;have g2:=qh e6;have P:Hid (Chg (fun k=>some k=(Value.slice f1 (An nl (m.take j)).length f2).ownBlock) wr w4):=(Chg.of ((Below.refl _ wr).drew)).trans c9 (fun k _ e=>e);clear e9 e6 c9)
      go_wp2;go_roundw
      case rel=>exact⟨j+1,h8,by omega,by go_num,rfl,by rw[g8.o];exact g5.o,K.o.chg P.o p.o.noSp (fun b z e=>x.o b z e.symm),x.o.near g2.o (fun b z=>(K.o.lt b z).2),J.o.trans (P.o.below J.o.size (fun k hk e=>by have:=(p.o.lt k e.symm).1;omega)),S.o.chg P.o (fun e=>by have:=(p.o.lt _ e.symm).1;omega),Nat.le_trans M P.o.size⟩
      case measure=>simp[intOf];omega
     ·have h0:¬(j:Int)< (m.length:Int):=by omega
      have HJ:Hid (An nl (m.take j)=An [] (d++m)):=by show _=_;rw[show j=m.length by omega,List.take_length,<-Y.o];simp[An]
      rw[HJ.o]at p x b8 b9 ⊢;have g4:Hid ((d++m).length<=(q+1)*4096):=by show _<=_;rw[List.length_append];have:=X.o;omega
      go_wp2;go_roundw
      case rel=>exact⟨q+1,_,d++m,by have:=b0.o;omega,by go_num,rfl,p.o,g4.o,C.o,J.o,S.o,M⟩
      case measure=>simp[intOf];have:=b0.o;omega
  ·have h5:¬(q:Int)< (args.length:Int):=by omega
   have b2:Hid (R=some d):=by
    show _=_;have h1:=a9.o;rw[show q=args.length by omega,List.drop_length,Text.parsesL,De]at h1;rw[<- h1];simp
   have e7:nl.Nodup:=by rw[<- Y.o];exact Ih List.nodup_nil d
   have HD:=qh (V.o _ nl wr a0.o.lies (by omega) e7);have f7:Hid (done s.size nl=done s.size d):=by show _=_;rw[<- Y.o];exact done_dd s.size d
   rw[f7.o]at HD;clear z e7;cases hd:done s.size d with
   |none=>
    rw[hd]at HD;have a1:Hid (R.bind (done s.size)=none):=by show _=_;rw[b2.o,Option.bind_some,hd]
    clear hd
    go_wp2_with (go_at_call 135
                 (refine HD.o.mono ?_);rintro e w3 ⟨h3,h⟩;obtain rfl:=h3;have I:=qh (Ab g.o h))
    go_ret2;rw[a1.o];exact⟨rfl,I.o⟩
   |some dl=>
    rw[hd]at HD;have a1:Hid (R.bind (done s.size)=some dl):=by show _=_;rw[b2.o,Option.bind_some,hd]
    clear hd
    go_wp2_with (go_at_call 135
                 (refine HD.o.mono ?_);rintro e w3 ⟨h3,h⟩;obtain⟨dv,rfl,e0⟩:=h3;have f8:=qh (e0.mono g.o.size);have I:=qh (Ab g.o h);clear e0)
    go_ret2;rw[a1.o];exact⟨⟨_,rfl,f8.o⟩,I.o⟩
end ReMem
namespace ReMem
open Go Go.RowKit MatchMath Strs
def Gy (l:List Sit) (vs:List Value):List Value:=(l.zip vs).flatMap fun x=> [.int .i64 x.1.1,.int .i64 (x.1.2.1:Int),x.2]
theorem Yq {l:List Sit} {a:List Value} (h:a.length=l.length) (p:Sit) (v:Value):Gy (l++ [p]) (a++ [v])=Gy l a++ [.int .i64 p.1,.int .i64 (p.2.1:Int),v]:=by
 unfold Gy;rw[List.zip_append h.symm];simp
theorem Tq:∀(l:List Sit) (a:List Value) (j:Nat) (p:Sit) (v:Value),l[j]? =some p->a[j]? =some v->(Gy l a)[j*3]? =some (.int .i64 p.1)/\(Gy l a)[j*3+1]? =some (.int .i64 (p.2.1:Int))/\(Gy l a)[j*3+2]? =some v
 | [],_,j,x,v,h,_=>by simp at h
 | _::_,[],j,x,v,_,h=>by simp at h
 |y::r,u::s,0,x,v,h,k=>by
  obtain rfl:y=x:=by simpa using h
  obtain rfl:u=v:=by simpa using k
  exact⟨rfl,rfl,rfl⟩
 |y::r,u::s,j+1,x,v,h,k=>by
  have:=Tq r s j x v (by simpa using h) (by simpa using k);rw[show (j+1)*3=j*3+1+1+1 from by omega];exact this
def SRow (w:World) (base:Nat) (v:Value) (l:List Sit):Prop:=∃vs:List Value,vs.length=l.length/\w.ownsRow base 236 3 v l.length (Gy l vs)/\∀(j:Nat) (p:Sit) (sv:Value),l[j]? =some p->vs[j]? =some sv->Al w sv p.2.2
theorem SRow.nil (w:World) (base:Nat):SRow w base (.slice none 0 0) []:=⟨[],rfl,⟨rfl,.inl ⟨rfl,rfl⟩⟩,fun j p sv h=>by simp at h⟩
theorem SRow.chg {C:Nat->Prop} {w n:World} {base:Nat} {v:Value} {l:List Sit} (h:SRow w base v l) (i:Chg C w n) (u:NoSp C w) (y:∀b,v.ownBlock=some b->¬C b):SRow n base v l:=by
 obtain⟨A,t,hr,x⟩:=h;refine⟨A,t,⟨hr.1,?_⟩,fun j p z r e=>(x j p z r e).chg i u⟩;rcases hr.2 with o | ⟨g,c,d,rfl,q,m,a⟩
 · exact .inl o
 · exact .inr ⟨g,c,d,rfl,q,(i.block g (qd m) (y g rfl)).trans m,a⟩
theorem SRow.lt {w:World} {base:Nat} {v:Value} {l:List Sit} (h:SRow w base v l):∀k,v.ownBlock=some k->base<=k/\k<w.heap.size:=by
 obtain⟨c,a,hr,b⟩:=h;exact hr.lt
theorem SRow.stays {w a:World} {base:Nat} {v:Value} {l:List Sit} (h:SRow w base v l) (b:qw w a):SRow a base v l:=h.chg (Chg.of (C:=fun _=>False) b) (NoSp.none w) (fun _ _ h=>h)
theorem SRow.form {w:World} {base:Nat} {v:Value} {l:List Sit} (h:SRow w base v l):∃a c,v=.slice a l.length c:=by
 obtain⟨m,i,hr,j⟩:=h;rcases hr.2 with ⟨rfl,e⟩ | ⟨g,b,d,rfl,_⟩
 · exact⟨none,0,by rw[e]⟩
 · exact⟨_,b,rfl⟩
theorem SRow.noSp {w:World} {base:Nat} {v:Value} {l:List Sit} (h:SRow w base v l):NoSp (fun k=>some k=v.ownBlock) w:=by
 obtain⟨p,n,hr,o⟩:=h;intro b i fz c j;rcases hr.2 with ⟨rfl,m⟩ | ⟨g,e,d,rfl,_,a,_⟩
 · cases c
 ·simp only[Value.ownBlock,Option.some.injEq]at c
  subst c;rw[j]at a;injection a with a;injection a with _ h1 _;exact absurd h1 (by decide)
theorem SRow.apart {w:World} {base c:Nat} {v u:Value} {l:List Sit} {m:List Parse} (h:SRow w base v l) (g:PRow w c u m):Apart v u:=by
 obtain⟨E,B,hr,C⟩:=h;obtain⟨D,x,i,y⟩:=g;intro b d e;rcases hr.2 with ⟨rfl,A⟩ | ⟨g,o,p,rfl,_,t,_⟩
 · cases d
 ·rcases i.2 with ⟨rfl,r⟩ | ⟨z,j,n,q,rfl,_,a,_⟩
  · cases e
  ·simp only[Value.ownBlock,Option.some.injEq]at d e
   subst d e;rw[t]at a;injection a with a;injection a with _ d _;exact absurd d (by decide)
theorem SRow.at {w:World} {base:Nat} {a:Option Addr} {n c:Nat} {l:List Sit} (h:SRow w base (.slice a n c) l) {j:Nat} {p:Sit} (i:l[j]? =some p):∃b sv,a=some ⟨b,0,none⟩/\w.cell? ⟨b,j*3,none⟩=some (.int .i64 p.1)/\w.cell? ⟨b,j*3+1,none⟩=some (.int .i64 (p.2.1:Int))/\w.cell? ⟨b,j*3+2,none⟩=some sv/\Al w sv p.2.2:=by
 obtain⟨e,y,hr,z⟩:=h;have m:j<e.length:=by rw[y];exact (List.getElem?_eq_some_iff.1 i).1
 have q:e[j]? =some e[j]:=List.getElem?_eq_getElem m;obtain⟨t,u,x⟩:=Tq l e j p _ i q;obtain⟨g,r,o,_,_,_,d,_⟩:=(Own.Row.of hr).here (by omega);injection o with hv1 _ _;subst hv1;exact⟨g,_,rfl,d _ _ t,d _ _ u,d _ _ x,z j p _ i q⟩
structure LBox (w:World) (lb:Nat) (s:ByteArray) (ln:Bool) (o:Int) (x0 x1 x2 x3:Nat) (l h g:Int) (av sv ov:Value):Prop where
 l0:w.cell? ⟨lb,0,none⟩=some (.string s)
 l1:w.cell? ⟨lb,1,none⟩=some (.bool ln)
 l2:w.cell? ⟨lb,2,none⟩=some (.int .i64 o)
 l3:w.cell? ⟨lb,3,none⟩=some (.int .u64 x0)
 l4:w.cell? ⟨lb,4,none⟩=some (.int .u64 x1)
 l5:w.cell? ⟨lb,5,none⟩=some (.int .u64 x2)
 l6:w.cell? ⟨lb,6,none⟩=some (.int .u64 x3)
 l7:w.cell? ⟨lb,7,none⟩=some (.int .i64 l)
 l8:w.cell? ⟨lb,8,none⟩=some (.int .i64 h)
 l9:w.cell? ⟨lb,9,none⟩=some (.int .i64 g)
 l10:w.cell? ⟨lb,10,none⟩=some av
 l11:w.cell? ⟨lb,11,none⟩=some sv
 l12:w.cell? ⟨lb,12,none⟩=some ov
 fz:∀j,w.frozen? ⟨lb,j,none⟩=false
 ns:∀cur fz,w.heap[lb]? =some (.cells cur 53 fz)->False
 lt:lb<w.heap.size
section
variable {w w':World} {lb:Nat} {s:ByteArray} {ln:Bool} {o:Int} {x0 x1 x2 x3:Nat} {l h g:Int} {av sv ov:Value}
theorem LBox.chg {C:Nat->Prop} (q:LBox w lb s ln o x0 x1 x2 x3 l h g av sv ov) (a:Chg C w w') (b:¬C lb):LBox w' lb s ln o x0 x1 x2 x3 l h g av sv ov:=
 ⟨a.cell q.l0 b,a.cell q.l1 b,a.cell q.l2 b,a.cell q.l3 b,a.cell q.l4 b,a.cell q.l5 b,a.cell q.l6 b,a.cell q.l7 b,a.cell q.l8 b,a.cell q.l9 b,a.cell q.l10 b,a.cell q.l11 b,a.cell q.l12 b,fun j=>by rw[World.frozen?_of_block (a.block lb q.lt b)];exact q.fz j,fun c fz d=>q.ns c fz (by rw[<- a.block lb q.lt b];exact d),Nat.lt_of_lt_of_le q.lt a.size⟩
theorem LBox.stays (q:LBox w lb s ln o x0 x1 x2 x3 l h g av sv ov) (a:qw w w'):LBox w' lb s ln o x0 x1 x2 x3 l h g av sv ov:=q.chg (Chg.of (C:=fun _=>False) a) (fun h=>h)
theorem Qn (w:World) (b j:Nat) (v:Value) (cur:Array Value) (e:TypeId) (fz:Nat×Nat) (h:(w.setCell ⟨b,j,none⟩ v).heap[b]? =some (.cells cur e fz)):∃cur',w.heap[b]? =some (.cells cur' e fz):=by
 simp only[World.setCell,Array.getElem?_modify,if_true]at h;cases hb:w.heap[b]? with
 | none=>rw[hb]at h;simp at h
 |some ob=>
  rw[hb]at h;cases ob with
  |cells c e' f=>
   simp at h;obtain⟨_,rfl,rfl⟩:=h;exact⟨c,rfl⟩
  | _=>simp at h
theorem LBox.set11 (q:LBox w lb s ln o x0 x1 x2 x3 l h g av sv ov) (u:Value):LBox (w.setCell ⟨lb,11,none⟩ u) lb s ln o x0 x1 x2 x3 l h g av u ov:=
 ⟨by rw[Ad (by simp)];exact q.l0,by rw[Ad (by simp)];exact q.l1,by rw[Ad (by simp)];exact q.l2,by rw[Ad (by simp)];exact q.l3,by rw[Ad (by simp)];exact q.l4,by rw[Ad (by simp)];exact q.l5,by rw[Ad (by simp)];exact q.l6,by rw[Ad (by simp)];exact q.l7,by rw[Ad (by simp)];exact q.l8,by rw[Ad (by simp)];exact q.l9,by rw[Ad (by simp)];exact q.l10,Aq q.l11,by rw[Ad (by simp)];exact q.l12,fun j=>by rw[World.frozen?_setCell];exact q.fz j,fun b fz c=>by obtain⟨a,h⟩:=Qn _ _ _ _ _ _ _ c;exact q.ns a fz h,by simpa using q.lt⟩
theorem LBox.set12 (q:LBox w lb s ln o x0 x1 x2 x3 l h g av sv ov) (u:Value):LBox (w.setCell ⟨lb,12,none⟩ u) lb s ln o x0 x1 x2 x3 l h g av sv u:=
 ⟨by rw[Ad (by simp)];exact q.l0,by rw[Ad (by simp)];exact q.l1,by rw[Ad (by simp)];exact q.l2,by rw[Ad (by simp)];exact q.l3,by rw[Ad (by simp)];exact q.l4,by rw[Ad (by simp)];exact q.l5,by rw[Ad (by simp)];exact q.l6,by rw[Ad (by simp)];exact q.l7,by rw[Ad (by simp)];exact q.l8,by rw[Ad (by simp)];exact q.l9,by rw[Ad (by simp)];exact q.l10,by rw[Ad (by simp)];exact q.l11,Aq q.l12,fun j=>by rw[World.frozen?_setCell];exact q.fz j,fun b fz c=>by obtain⟨a,h⟩:=Qn _ _ _ _ _ _ _ c;exact q.ns a fz h,by simpa using q.lt⟩
end
theorem refSeen_any (V:Nat) (s:ByteArray) (ln:Bool) (o:Int) (x0 x1 x2 x3:Nat) (lo hi g:Int) (av sv ov pv:Value) (l:List Sit) (c:Int) (p:Parse) (base:Nat) (w:World) (B:LBox w V s ln o x0 x1 x2 x3 lo hi g av sv ov) (hr:SRow w base sv l) (U:Al w pv p.2) (hn:l.length<=5000):
  Calls Tryz.prog 209 #[.pointer (some ⟨V,0,none⟩),.agg #[.int .i64 c,.int .i64 (p.1:Int),pv]] w fun r w'=>r=.returned (.bool (decide ((c,p)∈l)))/\qw w w':=by
 obtain⟨sa,sc,rfl⟩:=hr.form;obtain⟨pa,N,rfl⟩:=U.shape;have HB:=qh B;have HR:=qh hr;have HP:=qh U;have a5:=U.len.2;have a4:(l.length:Int)<=5000:=by omega
 obtain⟨R,hR⟩:∃R,decide ((c,p)∈l)=R:=⟨_,rfl⟩;rw[hR];have HQ:=qh hR;have l11:=B.l11;clear hR B hr U;obtain⟨D,a⟩:=p;simp only at*;have X:=qh (qb w (.cells #[.int .i64 c,.int .i64 (D:Int),.slice pa a.length N] 236));have G:=heap_alloc_new w (.cells #[.int .i64 c,.int .i64 (D:Int),.slice pa a.length N] 236);have HX:=qh G;clear G;go_enter func209,ntmps209;go_wp2
 go_loopw [5] (fun i wr=>∃q:Nat,q<=l.length/\i=.int .i64 q/\qw w wr/\wr.heap[w.heap.size]? =some (.cells #[.int .i64 c,.int .i64 (D:Int),.slice pa a.length N] 236 (0,0))/\∀j,j<q->l[j]? ≠some (c,(D,a))) (fun i _=>l.length-(intOf i).toNat)
 case atStart=>exact⟨0,Nat.zero_le _,rfl,X.o,HX.o,fun j O=>absurd O (Nat.not_lt_zero _)⟩
 case round=>
  obtain⟨q,hq,rfl,B,M,E⟩:=hrel;have S:=qh E;have h:=qh B;have K:=qh M;have e0:wr.cell? ⟨w.heap.size,0,none⟩=some (.int .i64 c):=by rw[qc M];rfl
  have e1:wr.cell? ⟨w.heap.size,1,none⟩=some (.int .i64 (D:Int)):=by rw[qc M];rfl
  have e2:wr.cell? ⟨w.heap.size,2,none⟩=some (.slice pa a.length N):=by rw[qc M];rfl
  have l11:=(HB.o.stays B).l11;have a3:w.heap.size<wr.heap.size:=(qd M);clear E M;by_cases hlt:q<l.length
  ·have a2:(q:Int)< (l.length:Int):=by omega
   have hz:l[q]? =some l[q]:=List.getElem?_eq_getElem hlt;obtain⟨b,a7,e9,c0,c1,c2,C⟩:=(HR.o.stays B).at hz;obtain⟨P,Q,rfl⟩:=C.shape;have T:=qh hz;have a6:=C.len.2;have A:=qh (fun W (z:qw wr W)=>Es _ _ l[q].2.2 a W (C.stays z).rd (HP.o.stays (h.o.trans (z.mono h.o.size))).rd);subst e9;clear B hz C;generalize l[q]=y at*;obtain⟨I,L,x⟩:=y;simp only at*;have n:=qh (fun W (z:qw wr W)=>And.intro (up9 z l11) (And.intro (up9 z e0) (And.intro (up9 z e1) (And.intro (up9 z e2) (And.intro (up9 z c0) (And.intro (up9 z c1) (up9 z c2)))))));by_cases h1:I=c
   ·subst h1
    by_cases h2:L=D
    ·subst h2
     by_cases h3:x=a
     ·have Y:Hid (R=true):=by show _=_;rw[<- HQ.o,decide_eq_true_eq];exact List.mem_of_getElem? (by rw[T.o,h3])
      have d:decide (x=a)=true:=decide_eq_true h3;rw[d]at A;clear h3 d;go_wp2
      go_region_held3 (fun w'=>w'.cell? ⟨V,11,none⟩=some (.slice (some ⟨b,0,none⟩) l.length sc)/\w'.cell? ⟨w.heap.size,0,none⟩=some (.int .i64 I)/\w'.cell? ⟨w.heap.size,1,none⟩=some (.int .i64 (L:Int))/\w'.cell? ⟨w.heap.size,2,none⟩=some (.slice pa a.length N)/\w'.cell? ⟨b,q*3,none⟩=some (.int .i64 I)/\w'.cell? ⟨b,q*3+1,none⟩=some (.int .i64 (L:Int))/\w'.cell? ⟨b,q*3+2,none⟩=some (.slice P x.length Q)) (first | exact n.o _ (Below.refl _ _) | exact n.o _ ((Below.refl _ wr).drew) | exact n.o _ m.o)
       (first
       | (go_at_call 21
          (refine (A.o _ (by first | exact (Below.refl _ wr).drew | exact Below.refl _ wr)).mono ?_)
          rintro e w3 ⟨rfl,u⟩;have m:Hid (qw wr w3):=(by first | exact Ab ((Below.refl _ wr).drew) u | exact u)
          have J:=qh (Ab h.o m.o)))
      all_goals go_wp2
      all_goals go_ret
      all_goals exact⟨by rw[Y.o];rfl,J.o⟩
     ·have d:decide (x=a)=false:=decide_eq_false h3
      have t:Hid (l[q]? ≠some (I,(L,a))):=by
       show _≠_;rw[T.o];intro e;injection e with e;injection e with _ e;injection e with _ e;exact h3 e
      rw[d]at A;clear h3 d;go_wp2
      go_region_held3 (fun w'=>w'.cell? ⟨V,11,none⟩=some (.slice (some ⟨b,0,none⟩) l.length sc)/\w'.cell? ⟨w.heap.size,0,none⟩=some (.int .i64 I)/\w'.cell? ⟨w.heap.size,1,none⟩=some (.int .i64 (L:Int))/\w'.cell? ⟨w.heap.size,2,none⟩=some (.slice pa a.length N)/\w'.cell? ⟨b,q*3,none⟩=some (.int .i64 I)/\w'.cell? ⟨b,q*3+1,none⟩=some (.int .i64 (L:Int))/\w'.cell? ⟨b,q*3+2,none⟩=some (.slice P x.length Q)) (first | exact n.o _ (Below.refl _ _) | exact n.o _ ((Below.refl _ wr).drew) | exact n.o _ m.o)
       (first
       | (go_at_call 21
          (refine (A.o _ (by first | exact (Below.refl _ wr).drew | exact Below.refl _ wr)).mono ?_)
          rintro e w3 ⟨rfl,u⟩;have m:Hid (qw wr w3):=(by first | exact Ab ((Below.refl _ wr).drew) u | exact u)
          have J:=qh (Ab h.o m.o)))
      all_goals go_wp2
      all_goals go_roundw
      case rel=>exact⟨q+1,by omega,by go_num,J.o,(m.o.block _ a3).trans K.o,fun j O=>by
       by_cases hjq:j=q
       ·subst hjq
        exact t.o
       · exact S.o j (by omega)⟩
      case measure=>simp[intOf];omega
    ·have a1:((L:Int)==(D:Int))=false:=by simp;omega
     have t:Hid (l[q]? ≠some (I,(D,a))):=by
      show _≠_;rw[T.o];intro e;injection e with e;injection e with _ e;injection e with e _;exact h2 e
     clear h2;go_wp2
     go_quiet (fail)
     go_wp2;go_roundw
     case rel=>exact⟨q+1,by omega,by go_num,Base.Ba h.o _,K.o,fun j O=>by
      by_cases hjq:j=q
      ·subst hjq
       exact t.o
      · exact S.o j (by omega)⟩
     case measure=>simp[intOf];omega
   ·have a1:(I==c)=false:=by simp[h1]
    have t:Hid (l[q]? ≠some (c,(D,a))):=by
     show _≠_;rw[T.o];intro e;injection e with e;injection e with e _;exact h1 e
    clear h1;go_wp2
    go_quiet (fail)
    go_wp2;go_roundw
    case rel=>exact⟨q+1,by omega,by go_num,Base.Ba h.o _,K.o,fun j O=>by
     by_cases hjq:j=q
     ·subst hjq
      exact t.o
     · exact S.o j (by omega)⟩
    case measure=>simp[intOf];omega
  ·have a2:¬(q:Int)< (l.length:Int):=by omega
   have a0:Hid (R=false):=by show _=_;rw[<- HQ.o,decide_eq_false_iff_not];exact mem_upto fun j O=>S.o j (by omega)
   clear B;go_wp2;go_ret;exact⟨by rw[a0.o];rfl,h.o⟩
end ReMem
end Go.Proofs.YtjefcpjciogcjaaGreatDoor
