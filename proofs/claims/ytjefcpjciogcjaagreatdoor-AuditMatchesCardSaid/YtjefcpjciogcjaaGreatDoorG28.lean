/- Lemmas for the walk of the law, in 3 parts. No condition beyond what each states. -/
import Derived.Test.YtjefcpjciogcjaaGreatDoorG25
import Derived.Test.YtjefcpjciogcjaaGreatDoorG8
import Derived.Test.YtjefcpjciogcjaaGreatDoorG27
import Derived.Test.YtjefcpjciogcjaaGreatDoorG19
import Derived.Test.YtjefcpjciogcjaaGreatDoorG4
import Derived.Test.YtjefcpjciogcjaaGreatDoorG18
import Derived.Test.YtjefcpjciogcjaaGreatDoorG24
import Derived.Deep.AppendLies
namespace Go.Proofs.YtjefcpjciogcjaaGreatDoor
set_option maxRecDepth 100000
set_option linter.unusedVariables false
set_option maxHeartbeats 16000000
open Tryz
namespace ReMem
open Go Go.RowKit MatchMath
theorem PB2.new (w:World):PB2 (w.alloc (.cells #[.slice none 0 0,.bool false] 96)) w.heap.size (.slice none 0 0) (.bool false):=heap_alloc_new w _
theorem Pb (p:ByteArray) (f b:Int) (e:Re) (v:Value) (w:World) (c:Lies w v e.args) (d:0<=f/\f<=7):
  Calls Tryz.prog 59 #[Bn p f b v e] w fun r w'=>r=.returned (.bool (decide (4<=f)))/\qw w w':=by
 obtain⟨g,h,rfl⟩:=c.shape;have a:=qh (qb w (.cells (XA p f b e g h) 30));unfold Bn;clear c;rcases (by omega:f=0\/f=1\/f=2\/f=3\/f=4\/f=5\/f=6\/f=7) with rfl | rfl | rfl | rfl | rfl | rfl | rfl | rfl;all_goals
  clear d;go_enter func59,ntmps59;go_wp2;go_ret;exact⟨rfl,a.o⟩
theorem pick_bad (p:ByteArray) (f b:Int) (e:Re) (v:Value) (w:World) (hs:size e<=100) (n:Ag e) (A:Lies w v e.args) (y:¬(Bf e=true/\b=(Af 6 e:Int)/\0<=f/\f<=7/\p.size<=256)):
  Calls Tryz.prog 33 #[Bn p f b v e] w (fun r w'=>(∃iv,r=.returned (.tuple #[iv,.int .i64 7]))/\qw w w'):=by
 have c:=qh (fun W (hw:qw w W)=>Ct e v W (by omega) n (A.stays hw));have d:=qh (fun W (hw:qw w W)=>Eg e v W (by omega) n (A.stays hw));rw[<- Ar e]at y;obtain⟨z,N⟩:∃z,Bz e=z:=⟨_,rfl⟩;obtain⟨K,M⟩:∃K:Nat,Af 6 e=K:=⟨_,rfl⟩;rw[N]at c y;rw[M]at d y;clear N M;have C:¬z=0\/z=0/\¬b=(K:Int)\/z=0/\b=(K:Int)/\f<0\/z=0/\b=(K:Int)/\7<f\/z=0/\b=(K:Int)/\0<=f/\f<=7/\(256:Int)< (p.size:Int):=by omega
 clear y;obtain⟨t,u,rfl⟩:=A.shape;have q:=RX.new w p f b (.slice t e.args.length u) e;have i:=qh (qb w (.cells (XA p f b e t u) 30));unfold Ac at c d;unfold Bn;clear A;go_enter func33,ntmps33;go_wp2_with fail
 generalize w.alloc (.cells (XA p f b e t u) 30)=w0 at*;obtain⟨X,F,hN,m,J,B⟩:=Quietly.worlds w0;have g:Hid (∀x,qw w (F x)):=fun x=>i.o.trans ((m x).mono i.o.size);have a:Hid (∀x,RX (F x) w.heap.size p f b (.slice t e.args.length u) e):=fun x=>q.stays (m x);have j:=qh (fun x=>c.o _ (g.o x));have l:=qh (fun x=>d.o _ (g.o x));have c0:∀x,(F x).cell? ⟨w.heap.size,0,none⟩=some (.string p):=fun x=>(a.o x).facts.1;have c1:∀x,(F x).cell? ⟨w.heap.size,1,none⟩=some (.int .i64 f):=fun x=>(a.o x).facts.2.1;have c2:∀x,(F x).cell? ⟨w.heap.size,2,none⟩=some (.int .i64 b):=fun x=>(a.o x).facts.2.2.1;have c3:∀x,(F x).cell? ⟨w.heap.size,3,none⟩=some (.int .i64 e.op):=fun x=>(a.o x).facts.2.2.2.1;have c4:∀x,(F x).cell? ⟨w.heap.size,4,none⟩=some (.int .u64 (Sets.Aa e.set 0:Nat)):=fun x=>(a.o x).facts.2.2.2.2.1;have c5:∀x,(F x).cell? ⟨w.heap.size,5,none⟩=some (.int .u64 (Sets.Aa e.set 1:Nat)):=fun x=>(a.o x).facts.2.2.2.2.2.1;have c6:∀x,(F x).cell? ⟨w.heap.size,6,none⟩=some (.int .u64 (Sets.Aa e.set 2:Nat)):=fun x=>(a.o x).facts.2.2.2.2.2.2.1;have c7:∀x,(F x).cell? ⟨w.heap.size,7,none⟩=some (.int .u64 (Sets.Aa e.set 3:Nat)):=fun x=>(a.o x).facts.2.2.2.2.2.2.2.1;have c8:∀x,(F x).cell? ⟨w.heap.size,8,none⟩=some (.int .i64 e.lo):=fun x=>(a.o x).facts.2.2.2.2.2.2.2.2.1;have c9:∀x,(F x).cell? ⟨w.heap.size,9,none⟩=some (.int .i64 e.hi):=fun x=>(a.o x).facts.2.2.2.2.2.2.2.2.2.1;have O:∀x,(F x).cell? ⟨w.heap.size,10,none⟩=some (.int .i64 e.group):=fun x=>(a.o x).facts.2.2.2.2.2.2.2.2.2.2.1;have P:∀x,(F x).cell? ⟨w.heap.size,11,none⟩=some (.slice t e.args.length u):=fun x=>(a.o x).facts.2.2.2.2.2.2.2.2.2.2.2
 clear q c d;refine Quietly.region (by kernel_rfl) (by kernel_rfl) J B ?_;rcases C with R | ⟨rfl,S⟩ | ⟨rfl,rfl,h3⟩ | ⟨rfl,rfl,h4⟩ | ⟨rfl,rfl,Y,V,a1⟩;have L:(z==0)=false:=beq_eq_false_iff_ne.2 R;have a2:(z != 0)=true:=by simp[bne,L]
 rotate_left;have I:(b==(K:Int))=false:=beq_eq_false_iff_ne.2 S;have a0:(b != (K:Int))=true:=by simp[bne,I]
 rotate_left;rotate_left;have G:¬f<0:=by omega
 have D:decide (f<0)=false:=decide_eq_false (by omega);have E:decide (7<f)=true:=decide_eq_true (by omega);rotate_left;have G:¬f<0:=by omega
 have U:¬7<f:=by omega
 have D:decide (f<0)=false:=decide_eq_false (by omega);have E:decide (7<f)=false:=decide_eq_false (by omega);have T:decide ((256:Int)< (p.size:Int))=true:=decide_eq_true (by omega);rotate_left;all_goals
  repeat go_big_quiet_step (first
   | (go_at_call 56
      (with_reducible refine (j.o _).mono ?_);rintro Q w1 ⟨rfl,h⟩;exact⟨rfl,B _ _ h⟩)
   | (go_at_call 57
      (with_reducible refine (l.o _).mono ?_);rintro Q w1 ⟨rfl,h⟩;exact⟨rfl,B _ _ h⟩))
  refine wpQuiet_nil ?_;rintro _ ⟨xx,rfl⟩;go_wp2;go_ret2;exact⟨⟨_,rfl⟩,g.o xx⟩
theorem pick_good (p:ByteArray) (f gr:Int) (e:Re) (v:Value) (w:World) (hs:size e<=100) (e0:Bf e=true) (f1:gr=(Af 6 e:Int)) (hf:0<=f/\f<=7) (hp:p.size<=256) (a7:Ag e) (hl:Lies w v e.args):
  Calls Tryz.prog 33 #[Bn p f gr v e] w (fun r w'=>(∃iv,r=.returned (.tuple #[iv,.int .i64 (if Lk e=true then 0 else 7)]))/\qw w w'):=by
 have b5:=qh (fun (h9:Af 9 e=0) W (B:qw w W)=>Zg e v (decide (4<=f)) W hs e0 (Pe e0) h9 a7 (hl.stays B));have G:=qh (Tj (e:=e));have I:=qh (Wu (e:=e));have b4:=qh (Ob e);obtain⟨ok,f2⟩:∃ok,Lk e=ok:=⟨_,rfl⟩;rw[f2]at G I ⊢;clear f2;have U:=qh (fun W (B:qw w W)=>Ct e v W (by omega) a7 (hl.stays B));have V:=qh (fun W (B:qw w W)=>Eg e v W (by omega) a7 (hl.stays B));rw[(Ar e).2 e0]at U;have P:=qh (fun W (B:qw w W)=>Kf e v W (by omega) a7 (hl.stays B));obtain⟨K,hK⟩:∃K:Nat,Af 6 e=K:=⟨_,rfl⟩;rw[hK]at V f1;subst f1;have g4:¬f<0:=by omega
 have g5:¬7<f:=by omega
 have g6:f<=7:=hf.2;have g7:0<=f:=hf.1;have e4:=qh hf;have g8:(p.size:Int)<=256:=by omega
 have g1:decide (f<0)=false:=decide_eq_false (by omega);have g2:decide (7<f)=false:=decide_eq_false (by omega);have g3:decide ((256:Int)< (p.size:Int))=false:=decide_eq_false (by omega);unfold Ac at P;clear hf hp hK;obtain⟨L,M,rfl⟩:=hl.shape;have e5:=qh hl;have f3:=RX.new w p f (K:Int) (.slice L e.args.length M) e;have e3:=qh (qb w (.cells (XA p f (K:Int) e L M) 30));unfold Ac at U V;unfold Bn;clear hl;go_enter func33,ntmps33;go_wp2_with fail
 generalize w.alloc (.cells (XA p f (K:Int) e L M) 30)=w0 at*;obtain⟨X,F,hN,b8,f4,hF⟩:=Quietly.worlds w0;have T:Hid (∀x,qw w (F x)):=fun x=>e3.o.trans ((b8 x).mono e3.o.size);have l:Hid (∀x,RX (F x) w.heap.size p f (K:Int) (.slice L e.args.length M) e):=fun x=>f3.stays (b8 x);have b1:=qh (fun x=>U.o _ (T.o x));have b3:=qh (fun x=>V.o _ (T.o x));have c0:∀x,(F x).cell? ⟨w.heap.size,0,none⟩=some (.string p):=fun x=>(l.o x).facts.1;have c1:∀x,(F x).cell? ⟨w.heap.size,1,none⟩=some (.int .i64 f):=fun x=>(l.o x).facts.2.1;have c2:∀x,(F x).cell? ⟨w.heap.size,2,none⟩=some (.int .i64 (K:Int)):=fun x=>(l.o x).facts.2.2.1;have c3:∀x,(F x).cell? ⟨w.heap.size,3,none⟩=some (.int .i64 e.op):=fun x=>(l.o x).facts.2.2.2.1;have c4:∀x,(F x).cell? ⟨w.heap.size,4,none⟩=some (.int .u64 (Sets.Aa e.set 0:Nat)):=fun x=>(l.o x).facts.2.2.2.2.1;have c5:∀x,(F x).cell? ⟨w.heap.size,5,none⟩=some (.int .u64 (Sets.Aa e.set 1:Nat)):=fun x=>(l.o x).facts.2.2.2.2.2.1;have c6:∀x,(F x).cell? ⟨w.heap.size,6,none⟩=some (.int .u64 (Sets.Aa e.set 2:Nat)):=fun x=>(l.o x).facts.2.2.2.2.2.2.1;have c7:∀x,(F x).cell? ⟨w.heap.size,7,none⟩=some (.int .u64 (Sets.Aa e.set 3:Nat)):=fun x=>(l.o x).facts.2.2.2.2.2.2.2.1;have c8:∀x,(F x).cell? ⟨w.heap.size,8,none⟩=some (.int .i64 e.lo):=fun x=>(l.o x).facts.2.2.2.2.2.2.2.2.1;have c9:∀x,(F x).cell? ⟨w.heap.size,9,none⟩=some (.int .i64 e.hi):=fun x=>(l.o x).facts.2.2.2.2.2.2.2.2.2.1;have a1:∀x,(F x).cell? ⟨w.heap.size,10,none⟩=some (.int .i64 e.group):=fun x=>(l.o x).facts.2.2.2.2.2.2.2.2.2.2.1
 have a3:∀x,(F x).cell? ⟨w.heap.size,11,none⟩=some (.slice L e.args.length M):=fun x=>(l.o x).facts.2.2.2.2.2.2.2.2.2.2.2;clear f3 U V;refine Quietly.region (by kernel_rfl) (by kernel_rfl) f4 hF ?_;repeat go_big_quiet_step (first
  | (go_at_call 56
     (with_reducible refine (b1.o _).mono ?_);rintro e1 w1 ⟨rfl,t⟩;exact⟨rfl,hF _ _ t⟩)
  | (go_at_call 57
     (with_reducible refine (b3.o _).mono ?_);rintro e1 w1 ⟨rfl,t⟩;exact⟨rfl,hF _ _ t⟩))
 refine wpQuiet_nil ?_;rintro _ ⟨xx,rfl⟩;obtain⟨w9,a8⟩:∃w9,F xx=w9:=⟨_,rfl⟩;have S:Hid (qw w w9):=by rw[<- a8];exact T.o xx
 have b7:Hid (RX w9 w.heap.size p f (K:Int) (.slice L e.args.length M) e):=by rw[<- a8];exact l.o xx
 rw[a8];clear c0 c1 c2 c3 c4 c5 c6 c7 c8 c9 a1 a3 a8 f4 hF b8 T l b1 b3 hN;clear xx F X;obtain⟨c0,c1,c2,c3,c4,c5,c6,c7,c8,c9,a1,a3⟩:=b7.o.facts;by_cases h9:Af 9 e=0
 ·rw[show decide (0<Af 9 e)=false by rw[h9];rfl]at P
  have a6:=b5.o h9;unfold Ac at a6;have e2:=I.o h9;obtain⟨ce,f0⟩:∃ce,Fo e=ce:=⟨_,rfl⟩;have d9:=b4.o;rw[f0]at a6 e2 d9;have b5:=qh a6;have G:=qh e2;have b4:=qh d9;clear h9 a6 e2 d9 f0 I;go_wp2_with (first
   | ( go_at_call 58
       (refine (P.o _ S.o).mono ?_);rintro f8 b ⟨rfl,t⟩;have d:=qh (Ab S.o t);have Q:=qh (b7.o.stays t);clear t c0 c1 c2 c3 c4 c5 c6 c7 c8 c9 a1 a3))
  have m:Hid (∀W,qw b W->XS W w.heap.size p f (K:Int) e L M):=fun W B=>(Q.o.stays B).facts;have N:=qh (fun W (B:qw b W)=>Pb p f (K:Int) e (.slice L e.args.length M) W (e5.o.stays (Ab d.o B)) e4.o);unfold Bn at N;have b6:=qh (fun (ob:Obj)=>((Below.refl _ b).drew).alloc ql ob)
  go_region_held3 (fun w'=>XS w' w.heap.size p f (K:Int) e L M) (first | exact m.o _ (Below.refl _ _) | exact m.o _ ((Below.refl _ b).drew) | exact m.o _ (b6.o _) | exact m.o _ a.o | exact z.o _ | exact m.o _ c.o | exact Y.o _ | exact e9.o _ _ _ ql | exact e9.o _ _ _ a.o.size)
   (first
   | ( go_at_call 59
       (refine (N.o _ (by first | exact (Below.refl _ b).drew | exact Below.refl _ b | exact b6.o _)).mono ?_)
       rintro e6 h ⟨rfl,A⟩;have a:Hid (qw b h):=(by first | exact Ab ((Below.refl _ b).drew) A | exact A | exact Ab (b6.o _) A)
       have z:=qh (fun (ob:Obj)=>m.o (h.alloc ob) (a.o.alloc a.o.size ob));have f7:=qh (PB2.new h);first
       | (have f6:Hid (PB2 h b.heap.size (.slice none 0 0) (.bool false)):=(PB2.new b.drew).stays A)
       | skip
       clear A)
   | ( go_at_call 60
       (refine (b5.o _ (by first | exact Ab d.o a.o | exact Ab d.o (a.o.alloc a.o.size _))).mono ?_)
       rintro e7 n ⟨⟨C,E,c2,D,rfl⟩,R⟩;have c:Hid (qw b n):=(by first | exact Ab a.o R | exact Ab (a.o.alloc a.o.size _) R)
       have Y:=qh (fun (ob:Obj)=>m.o (n.alloc ob) (c.o.alloc c.o.size ob));have e9:=qh (fun (g:Nat) x y (hg:b.heap.size<=g)=>m.o _ ((c.o.setCell (p:=⟨g,0,none⟩) hg x).setCell (p:=⟨g,1,none⟩) hg y));first
       | (have hq:=f6.o.stays R
          have HQ:=qh hq;obtain⟨a4,a5,a9,b0, -⟩:=hq.facts;clear hq)
       | (have hq:=f7.o.stays R
          have HQ:=qh hq;obtain⟨a4,a5,a9,b0, -⟩:=hq.facts;clear hq)
       | skip
       clear R))
  have i:Hid (qw b (n.alloc (.cells #[.slice C E c2,.bool D] 96))):=c.o.alloc c.o.size (.cells #[.slice C E c2,.bool D] 96);have u:PB2 (n.alloc (.cells #[.slice C E c2,.bool D] 96)) n.heap.size (.slice C E c2) (.bool D):=heap_alloc_new n _;try clear a4 a5 a9 b0
  generalize (n.alloc (.cells #[.slice C E c2,.bool D] 96))=w13 at i u ⊢;obtain⟨O,q⟩:∃g,n.heap.size=g:=⟨_,rfl⟩;rw[q]at u ⊢;clear q;rotate_left;have i:Hid (qw b ((n.setCell ⟨h.heap.size,0,none⟩ (.slice C E c2)).setCell ⟨h.heap.size,1,none⟩ (.bool D))):=(c.o.setCell (p:=⟨h.heap.size,0,none⟩) a.o.size _).setCell (p:=⟨h.heap.size,1,none⟩) a.o.size _;have u:PB2 ((n.setCell ⟨h.heap.size,0,none⟩ (.slice C E c2)).setCell ⟨h.heap.size,1,none⟩ (.bool D)) h.heap.size (.slice C E c2) (.bool D):=HQ.o.set (.slice C E c2) (.bool D);try clear a4 a5 a9 b0
  generalize ((n.setCell ⟨h.heap.size,0,none⟩ (.slice C E c2)).setCell ⟨h.heap.size,1,none⟩ (.bool D))=w13 at i u ⊢;obtain⟨O,q⟩:∃g,h.heap.size=g:=⟨_,rfl⟩;rw[q]at u ⊢;clear q;rotate_left;have i:Hid (qw b ((n.setCell ⟨b.heap.size,0,none⟩ (.slice C E c2)).setCell ⟨b.heap.size,1,none⟩ (.bool D))):=(c.o.setCell (p:=⟨b.heap.size,0,none⟩) ql _).setCell (p:=⟨b.heap.size,1,none⟩) ql _;have u:PB2 ((n.setCell ⟨b.heap.size,0,none⟩ (.slice C E c2)).setCell ⟨b.heap.size,1,none⟩ (.bool D)) b.heap.size (.slice C E c2) (.bool D):=HQ.o.set (.slice C E c2) (.bool D);try clear a4 a5 a9 b0
  generalize ((n.setCell ⟨b.heap.size,0,none⟩ (.slice C E c2)).setCell ⟨b.heap.size,1,none⟩ (.bool D))=w13 at i u ⊢;obtain⟨O,q⟩:∃g,b.heap.size=g:=⟨_,rfl⟩;rw[q]at u ⊢;clear q;rotate_left;all_goals
   rcases b4.o with rfl | rfl
   ·  obtain rfl:=G.o
      obtain⟨f9,g0, -, -, -⟩:=u.facts;clear u;have J:Hid (∀W,qw w13 W->(W.cell? ⟨O,0,none⟩=some (.slice C E c2)/\W.cell? ⟨O,1,none⟩=some (.bool D))/\XS W w.heap.size p f (K:Int) e L M):=fun W B=>⟨⟨upc B f9,upc B g0⟩,m.o W (Ab i.o B)⟩;go_wp2_with fail
      go_region_held3 (fun w'=>(w'.cell? ⟨O,0,none⟩=some (.slice C E c2)/\w'.cell? ⟨O,1,none⟩=some (.bool D))/\XS w' w.heap.size p f (K:Int) e L M) (first | exact J.o _ (Below.refl _ _) | exact J.o _ ((Below.refl _ w13).drew) | exact J.o _ j.o | exact a0.o _)
        (first
        | (go_at_call 59
           (refine (N.o _ (by first | exact Ab i.o ((Below.refl _ w13).drew) | exact i.o)).mono ?_)
           rintro e8 f5 ⟨rfl,b9⟩;have j:Hid (qw w13 f5):=(by first | exact Ab ((Below.refl _ w13).drew) b9 | exact b9)
           have a0:=qh (fun (ob:Obj)=>J.o (f5.alloc ob) (j.o.alloc j.o.size ob));clear b9))
      go_wp2_with fail
      go_ret2;exact⟨⟨_,rfl⟩,d.o.trans ((Ab i.o (j.o.alloc j.o.size _)).mono d.o.size)⟩
   ·  obtain rfl:=G.o
      go_wp2_with fail
      go_ret2;exact⟨⟨_,rfl⟩,d.o.trans (i.o.mono d.o.size)⟩
 ·rw[show decide (0<Af 9 e)=true from decide_eq_true (by omega)]at P
  have G:=qh (G.o h9);clear h9 I;go_wp2_with (first
   | ( go_at_call 58
       (refine (P.o _ S.o).mono ?_);rintro f8 b ⟨rfl,t⟩;have d:=qh (Ab S.o t);have Q:=qh (b7.o.stays t);clear t c0 c1 c2 c3 c4 c5 c6 c7 c8 c9 a1 a3))
  have m:Hid (∀W,qw b W->XS W w.heap.size p f (K:Int) e L M):=fun W B=>(Q.o.stays B).facts;have N:=qh (fun W (B:qw b W)=>Pb p f (K:Int) e (.slice L e.args.length M) W (e5.o.stays (Ab d.o B)) e4.o);unfold Bn at N
  go_region_held3 (fun w'=>XS w' w.heap.size p f (K:Int) e L M) (first | exact m.o _ (Below.refl _ _) | exact m.o _ ((Below.refl _ b).drew) | exact m.o _ a.o | exact z.o _)
   (first
   | ( go_at_call 59
       (refine (N.o _ (by first | exact (Below.refl _ b).drew | exact Below.refl _ b)).mono ?_)
       rintro e6 h ⟨rfl,A⟩;have a:Hid (qw b h):=(by first | exact Ab ((Below.refl _ b).drew) A | exact A)
       have z:=qh (fun (ob:Obj)=>m.o (h.alloc ob) (a.o.alloc a.o.size ob));clear A))
  go_wp2_with fail
  go_ret2;obtain rfl:=G.o;exact⟨⟨_,rfl⟩,d.o.trans ((a.o.alloc a.o.size _).mono d.o.size)⟩
theorem pickP_any (p:ByteArray) (f a:Int) (e:Re) (v:Value) (w:World) (m:size e<=100) (b:Ag e) (l:Lies w v e.args):
  Calls Tryz.prog 33 #[Bn p f a v e] w fun r w'=>(∃iv,r=.returned (.tuple #[iv,.int .i64 (if Cd e a f p.size=true then 0 else 7)]))/\qw w w':=by
 by_cases h:Bf e=true/\a=(Af 6 e:Int)/\0<=f/\f<=7/\p.size<=256
 ·obtain⟨c,d,g,i,j⟩:=h
  rw[Xq e a f p.size c d ⟨g,i⟩ j];exact pick_good p f a e v w m c d ⟨g,i⟩ j b l
 ·rw[validRx_not h]
  exact pick_bad p f a e v w m b l h
theorem Xo (p:ByteArray) (f c:Int) (e:Re) (v:Value) (w:World) (j:size e<=100) (g:Ag e) (i:Lies w v e.args):
  Calls Tryz.prog 15 #[Bn p f c v e] w fun r w'=>r=.returned (.bool (Cd e c f p.size))/\qw w w':=by
 have a:=qh (fun W (hw:qw w W)=>pickP_any p f c e v W j g (i.stays hw));obtain⟨n,q,rfl⟩:=i.shape;obtain⟨z,l⟩:∃z,Cd e c f p.size=z:=⟨_,rfl⟩;rw[l]at a ⊢;have b:=qh (qb w (.cells (XA p f c e n q) 30));unfold Bn at a ⊢;clear i j g l;cases z
 all_goals
  simp only[Bool.false_eq_true,if_true,if_false]at a;go_enter func15,ntmps15;go_wp2_with (first
   | (go_at_call 33
      (refine (a.o _ b.o).mono ?_);rintro m u ⟨⟨t,rfl⟩,d⟩;have h:=qh (Ab b.o d);clear d))
  go_ret;exact⟨rfl,h.o⟩
end ReMem
namespace ReMem
open Go Go.RowKit MatchMath Strs
def ARes (w:World) (o:Option (Option (List Span))) (r:Ending) (w':World):Prop:=(match o with
 | none=>r=.returned (.tuple #[.agg #[.slice none 0 0],.bool false,.int .i64 11])
 | some none=>r=.returned (.tuple #[.agg #[.slice none 0 0],.bool false,.int .i64 0])
 | some (some m)=>∃v,r=.returned (.tuple #[.agg #[v],.bool true,.int .i64 0])/\Al w' v m)/\qw w w'
theorem refAt_any (s:ByteArray) (ln:Bool) (e:Re) (v:Value) (i:Nat) (w:World) (hl:Lies w v e.args) (P:Ag e) (a6:Bz e=0) (a8:size e<=100) (hk:Af 6 e<=4096) (a7:gok (Af 6 e) e=true) (hi:i<=s.size) (c9:s.size<=4096):
  Calls Tryz.prog 38 #[Ac v e,.string s,.int .i64 i,.bool ln] w (ARes w ((Gt (tx s ln) e i).map fun x=>x.map (Am i))):=by
 have C:=qh (fun W (hw:qw w W)=>refTop_any s ln e v i W (hl.stays hw) P a6 a8 hk a7 hi c9);obtain⟨R,hR⟩:∃R,(tx s ln).parses e i (List.replicate (Af 6 e) Cj)=R:=⟨_,rfl⟩;have HM:Hid (Gt (tx s ln) e i=R.map List.head?):=by show _=_;rw[<- hR];rfl
 rw[HM.o];rw[hR]at C;have b8:Hid (∀l,R=some l->∀q∈l,q.2.length<=4096):=fun l hl q hq=>by
  have t:=Dd (tx s ln) e i (List.replicate (Af 6 e) Cj) l (by rw[show (tx s ln).s.length=s.size from Ce s];exact hi) (Ik _ _) (hR.trans hl) q hq;have T:=t.2.2.1;rw[List.length_replicate]at T;omega
 have e9:(i:Int)<=(s.size:Int):=by omega
 have f2:(s.size:Int)<=4096:=by omega
 obtain⟨va,vc,rfl⟩:=hl.shape;have e7:e.args.length<=9223372036854775807:=by
  obtain⟨a,c,vs,t,⟨T,h3⟩, -⟩:=hl.opened;exact Nat.le_trans T h3
 unfold Ac at C ⊢;clear hl P a6 a8 hk a7 hR HM;have HB:=qh ((qb w (.cells #[.int .i64 e.op,.int .u64 (Sets.Aa e.set 0:Nat),.int .u64 (Sets.Aa e.set 1:Nat),.int .u64 (Sets.Aa e.set 2:Nat),.int .u64 (Sets.Aa e.set 3:Nat),.int .i64 e.lo,.int .i64 e.hi,.int .i64 e.group,.slice va e.args.length vc] 28)).alloc (by simp) (.cells #[.slice none 0 0] 42));have M:=heap_alloc_new (w.alloc (.cells #[.int .i64 e.op,.int .u64 (Sets.Aa e.set 0:Nat),.int .u64 (Sets.Aa e.set 1:Nat),.int .u64 (Sets.Aa e.set 2:Nat),.int .u64 (Sets.Aa e.set 3:Nat),.int .i64 e.lo,.int .i64 e.hi,.int .i64 e.group,.slice va e.args.length vc] 28)) (.cells #[.slice none 0 0] 42);have e0:(w.alloc (.cells #[.int .i64 e.op,.int .u64 (Sets.Aa e.set 0:Nat),.int .u64 (Sets.Aa e.set 1:Nat),.int .u64 (Sets.Aa e.set 2:Nat),.int .u64 (Sets.Aa e.set 3:Nat),.int .i64 e.lo,.int .i64 e.hi,.int .i64 e.group,.slice va e.args.length vc] 28)).heap.size=w.heap.size+1:=by simp
 rw[e0]at M;have u:=qh M;clear M e0;cases R with
 |none=>
  go_enter func38,ntmps38;go_wp2_with (first
   | (go_at_call 67
      (refine (C.o _ HB.o).mono ?_);rintro e1 d ⟨t,j⟩;obtain rfl:=t;have y:=qh (Ab HB.o j);have g:=j.block _ (qd u.o);rw[u.o]at g;have c1:d.cell? ⟨w.heap.size+1,0,none⟩=some (.slice none 0 0):=by rw[qc g];rfl
      have z1:d.frozen? ⟨w.heap.size+1,0,none⟩=false:=by unfold World.frozen?;rw[g];simp
      clear j g))
  have c2:(d.setCell ⟨w.heap.size+1,0,none⟩ (.slice none 0 0)).cell? ⟨w.heap.size+1,0,none⟩=some (.slice none 0 0):=Aq c1;try simp only[Exit.inBlock,Exit.then]
  refine bodyPost_ret (v:=.tuple #[.agg #[.slice none 0 0],.bool false,.int .i64 11]) (by simp[results,results38,go_sem,c2]) rfl ?_;exact⟨rfl,y.o.setCell (Nat.le_succ _) _⟩
 | some l=>
 rcases l with _ | ⟨p,r⟩
 ·go_enter func38,ntmps38
  go_wp2_with (first
   | (go_at_call 67
      (refine (C.o _ HB.o).mono ?_);rintro e1 d ⟨t,j⟩;obtain⟨pv,rfl,D⟩:=t;obtain⟨pa,pc,rfl⟩:=D.form;simp only[List.length_nil];have y:=qh (Ab HB.o j);have g:=j.block _ (qd u.o);rw[u.o]at g;have c1:d.cell? ⟨w.heap.size+1,0,none⟩=some (.slice none 0 0):=by rw[qc g];rfl
      have z1:d.frozen? ⟨w.heap.size+1,0,none⟩=false:=by unfold World.frozen?;rw[g];simp
      clear j g D))
  have c2:(d.setCell ⟨w.heap.size+1,0,none⟩ (.slice none 0 0)).cell? ⟨w.heap.size+1,0,none⟩=some (.slice none 0 0):=Aq c1;try simp only[Exit.inBlock,Exit.then]
  refine bodyPost_ret (v:=.tuple #[.agg #[.slice none 0 0],.bool false,.int .i64 0]) (by simp[results,results38,go_sem,c2]) rfl ?_;exact⟨rfl,y.o.setCell (Nat.le_succ _) _⟩
 ·go_enter func38,ntmps38
  go_wp2_with (first
   | (go_at_call 67
      (refine (C.o _ HB.o).mono ?_);rintro e1 d ⟨t,j⟩;obtain⟨pv,rfl,D⟩:=t;obtain⟨pa,pc,rfl⟩:=D.form;have e6:=qh D;have f1:=D.lies.len.2;obtain⟨b,off,sv,e2,y1,y2,O⟩:=D.lies.at (show (p::r)[0]? =some p from rfl);subst e2;obtain⟨sa,sc,rfl⟩:=O.shape;have f3:=O.len.2;have a3:=qh O;simp only[Nat.zero_mul,Nat.add_zero]at y1 y2;have y:=qh (Ab HB.o j);have g:=j.block _ (qd u.o);rw[u.o]at g;have c1:d.cell? ⟨w.heap.size+1,0,none⟩=some (.slice none 0 0):=by rw[qc g];rfl
      have z1:d.frozen? ⟨w.heap.size+1,0,none⟩=false:=by unfold World.frozen?;rw[g];simp
      have N:=qh g;clear j g D O))
  by_cases hp0:p.2.length=0
  ·have z:=qh ((qb d (.cells #[.int .i64 (i:Int),.int .i64 (p.1:Int)] 53)).alloc (by simp) (.cells #[.slice (some ⟨d.heap.size,0,none⟩) 1 1] 42))
   have b7:=qh (List.eq_nil_of_length_eq_zero hp0);rw[hp0]at y2;have e4:=up9 z.o y2;have J:Hid (World.ownsRow (d.alloc (.cells #[.int .i64 (i:Int),.int .i64 (p.1:Int)] 53)) d.heap.size 53 2 (.slice (some ⟨d.heap.size,0,none⟩) 1 1) 1 [.int .i64 (i:Int),.int .i64 (p.1:Int)]):=⟨rfl,.inr ⟨d.heap.size,1,_,rfl,ql,heap_alloc_new d _,ql,by unfold maxLen;omega,rfl,rfl⟩⟩;have m:=heap_alloc_new (d.alloc (.cells #[.int .i64 (i:Int),.int .i64 (p.1:Int)] 53)) (.cells #[.slice (some ⟨d.heap.size,0,none⟩) 1 1] 42);rw[show (d.alloc (.cells #[.int .i64 (i:Int),.int .i64 (p.1:Int)] 53)).heap.size=d.heap.size+1 from by simp]at m;have K:=qh m;have U:w.heap.size+1<d.heap.size:=by have t:=(qd N.o);exact t
   have L:=qh ((z.o.block _ U).trans N.o);clear m hp0;obtain⟨i0,X,a9,b0,b1⟩:=info_parts Qq
   go_region_law
     ((refine Ry _ (by rfl) _ _ _ (by rfl) 53 i0 underlying40 X (some ⟨d.heap.size,0,none⟩) 1 1 ql (by rfl) _ _ (by rfl) ?_))
   all_goals
     have b5:Hid (qw d ((d.alloc (.cells #[.int .i64 (i:Int),.int .i64 (p.1:Int)] 53)).alloc (.cells #[.slice (some ⟨d.heap.size,0,none⟩) 1 1] 42)).drew):=z.o.drew;have A:Hid (((d.alloc (.cells #[.int .i64 (i:Int),.int .i64 (p.1:Int)] 53)).alloc (.cells #[.slice (some ⟨d.heap.size,0,none⟩) 1 1] 42)).drew.heap[w.heap.size+1]? =some (.cells #[.slice none 0 0] 42)):=L.o;have I:Hid (((d.alloc (.cells #[.int .i64 (i:Int),.int .i64 (p.1:Int)] 53)).alloc (.cells #[.slice (some ⟨d.heap.size,0,none⟩) 1 1] 42)).drew.heap[d.heap.size+1]? =some (.cells #[.slice (some ⟨d.heap.size,0,none⟩) 1 1] 42)):=K.o;have a2:Hid (Al ((d.alloc (.cells #[.int .i64 (i:Int),.int .i64 (p.1:Int)] 53)).alloc (.cells #[.slice (some ⟨d.heap.size,0,none⟩) 1 1] 42)).drew (.slice (some ⟨d.heap.size,0,none⟩) 1 1) (Am i p)):=by
       have t:=Al.of_row (l:=Am i p) (base:=d.heap.size) (v:=(.slice (some ⟨d.heap.size,0,none⟩) 1 1)) (w:=d.alloc (.cells #[.int .i64 (i:Int),.int .i64 (p.1:Int)] 53)) (by
        have T:=Own.Row.of J.o;unfold Am;rw[b7.o];exact T)
       exact t.stays (((Below.refl _ _).alloc ql _).drew)
     generalize ((d.alloc (.cells #[.int .i64 (i:Int),.int .i64 (p.1:Int)] 53)).alloc (.cells #[.slice (some ⟨d.heap.size,0,none⟩) 1 1] 42)).drew=n at*;have b3:n.cell? ⟨d.heap.size+1,0,none⟩=some (.slice (some ⟨d.heap.size,0,none⟩) 1 1):=by rw[qc I.o];rfl
     have m8:n.cell? ⟨w.heap.size+1,0,none⟩=some (.slice none 0 0):=by rw[qc A.o];rfl
     have z8:n.frozen? ⟨w.heap.size+1,0,none⟩=false:=by unfold World.frozen?;rw[A.o];simp
     go_wp2_with fail
     have c2:(n.setCell ⟨w.heap.size+1,0,none⟩ (.slice (some ⟨d.heap.size,0,none⟩) 1 1)).cell? ⟨w.heap.size+1,0,none⟩=some (.slice (some ⟨d.heap.size,0,none⟩) 1 1):=Aq m8;try simp only[Exit.inBlock,Exit.then]
     refine bodyPost_ret (v:=.tuple #[.agg #[(.slice (some ⟨d.heap.size,0,none⟩) 1 1)],.bool true,.int .i64 0]) (by simp[results,results38,go_sem,c2]) rfl ?_;refine⟨⟨_,rfl,?_⟩,?_⟩
     · have a1:NoSp (fun b=>b=w.heap.size+1) n:=fun b a4 fz e G=>by
        subst e;rw[A.o]at G;injection G with G;injection G with _ t _;exact absurd t (by decide)
       exact a2.o.chg (Chg.setCell n (w.heap.size+1) 0 _) a1
     · have a0:qw w n:=y.o.trans (b5.o.mono y.o.size)
       exact a0.setCell (p:=⟨_,0,none⟩) (by simp) _
  obtain⟨x,hx⟩:∃x,p.2[0]? =some x:=⟨_,List.getElem?_eq_getElem (by omega)⟩;obtain⟨b2,b4,e3, -, -⟩:=a3.o.at hx;subst e3;have z:=qh ((qb d (.cells #[.int .i64 (i:Int),.int .i64 (p.1:Int)] 53)).alloc (by simp) (.cells #[.slice (some ⟨d.heap.size,0,none⟩) 1 1] 42));have e4:=up9 z.o y2;have b6:=qh ((a3.o.stays z.o).news);have J:Hid (World.ownsRow (d.alloc (.cells #[.int .i64 (i:Int),.int .i64 (p.1:Int)] 53)) d.heap.size 53 2 (.slice (some ⟨d.heap.size,0,none⟩) 1 1) 1 [.int .i64 (i:Int),.int .i64 (p.1:Int)]):=⟨rfl,.inr ⟨d.heap.size,1,_,rfl,ql,heap_alloc_new d _,ql,by unfold maxLen;omega,rfl,rfl⟩⟩;have m:=heap_alloc_new (d.alloc (.cells #[.int .i64 (i:Int),.int .i64 (p.1:Int)] 53)) (.cells #[.slice (some ⟨d.heap.size,0,none⟩) 1 1] 42);rw[show (d.alloc (.cells #[.int .i64 (i:Int),.int .i64 (p.1:Int)] 53)).heap.size=d.heap.size+1 from by simp]at m;have K:=qh m;have U:w.heap.size+1<d.heap.size:=by have t:=(qd N.o);exact t
  have L:=qh ((z.o.block _ U).trans N.o);clear m;obtain⟨i0,X,a9,b0,b1⟩:=info_parts Qq;have e5:p.2.length<=4096:=b8.o _ rfl p (by simp)
  go_region_law
   ((refine step_append_lies _ (by rfl) _ _ _ (by rfl) d.heap.size 53 i0 _ 2 16 underlying40 X a9 b0 b1 rfl (by omega) (.slice (some ⟨d.heap.size,0,none⟩) 1 1) 1 [.int .i64 (i:Int),.int .i64 (p.1:Int)] (by rfl) ((J.o.alloc _).drew)
       ⟨b2,b4,none⟩ p.2.length sc (Az p.2) (by rfl) (Gj _) b6.o (Hu _) (by omega) (by unfold maxLen;omega) (by omega) (by simp;omega) (d.heap.size+1+1) (by simp) ?_;intro E h n Y V e8 f0
     have S:=qh Y;have Q:=qh (Chg.grown V);have I:=qh ((Q.o.block (d.heap.size+1) (by simp) (fun e=>by simp[Value.ownBlock]at e)).trans K.o);have A:=qh ((Q.o.block (w.heap.size+1) (by simp;omega) (fun e=>by simp[Value.ownBlock]at e;omega)).trans L.o);have b3:n.cell? ⟨d.heap.size+1,0,none⟩=some (.slice (some ⟨d.heap.size,0,none⟩) 1 1):=by rw[qc I.o];rfl
     have f5:n.frozen? ⟨d.heap.size+1,0,none⟩=false:=by unfold World.frozen?;rw[I.o];simp
     have m8:n.cell? ⟨w.heap.size+1,0,none⟩=some (.slice none 0 0):=by rw[qc A.o];rfl
     have z8:n.frozen? ⟨w.heap.size+1,0,none⟩=false:=by unfold World.frozen?;rw[A.o];simp))
  all_goals
   have f4:(n.setCell ⟨d.heap.size+1,0,none⟩ (.slice (some ⟨E,0,none⟩) (1+p.2.length) h)).cell? ⟨d.heap.size+1,0,none⟩=some (.slice (some ⟨E,0,none⟩) (1+p.2.length) h):=Aq b3;have n8:(n.setCell ⟨d.heap.size+1,0,none⟩ (.slice (some ⟨E,0,none⟩) (1+p.2.length) h)).cell? ⟨w.heap.size+1,0,none⟩=some (.slice none 0 0):=by
     rw[Ad (by first | (simp;done) | (simp;omega))]
     exact m8
   have q8:(n.setCell ⟨d.heap.size+1,0,none⟩ (.slice (some ⟨E,0,none⟩) (1+p.2.length) h)).frozen? ⟨w.heap.size+1,0,none⟩=false:=by
     rw[World.frozen?_setCell];exact z8
  all_goals go_wp2_with fail
  all_goals
   have c2:((n.setCell ⟨d.heap.size+1,0,none⟩ (.slice (some ⟨E,0,none⟩) (1+p.2.length) h)).setCell ⟨w.heap.size+1,0,none⟩ (.slice (some ⟨E,0,none⟩) (1+p.2.length) h)).cell? ⟨w.heap.size+1,0,none⟩=some (.slice (some ⟨E,0,none⟩) (1+p.2.length) h):=Aq n8;try simp only[Exit.inBlock,Exit.then]
   refine bodyPost_ret (v:=.tuple #[.agg #[(.slice (some ⟨E,0,none⟩) (1+p.2.length) h)],.bool true,.int .i64 0]) (by simp[results,results38,go_sem,c2]) rfl ?_;have a5:=y.o.trans (z.o.mono y.o.size);have b9:Al n (.slice (some ⟨E,0,none⟩) (1+p.2.length) h) (Am i p):=by
     have t:=Al.of_row (l:=Am i p) (base:=d.heap.size) (w:=n) (v:=(.slice (some ⟨E,0,none⟩) (1+p.2.length) h)) (by
       have T:=Own.Row.of S.o;rw[show (Am i p).length=1+p.2.length by simp[Am];omega];exact T)
     exact t
   have g1:=Chg.setCell n (d.heap.size+1) 0 (.slice (some ⟨E,0,none⟩) (1+p.2.length) h);have g2:=Chg.setCell (n.setCell ⟨d.heap.size+1,0,none⟩ (.slice (some ⟨E,0,none⟩) (1+p.2.length) h)) (w.heap.size+1) 0 (.slice (some ⟨E,0,none⟩) (1+p.2.length) h);refine⟨⟨_,rfl,?_⟩,?_⟩
   · have d9:NoSp (fun b=>b=d.heap.size+1) n:=fun b a4 fz e G=>by
       subst e;rw[I.o]at G;injection G with G;injection G with _ t _;exact absurd t (by decide)
     have a1:NoSp (fun b=>b=w.heap.size+1) (n.setCell ⟨d.heap.size+1,0,none⟩ (.slice (some ⟨E,0,none⟩) (1+p.2.length) h)):=fun b a4 fz e G=>by
       subst e;rw[g1.block (w.heap.size+1) (qd A.o) (by omega),A.o]at G;injection G with G;injection G with _ t _;exact absurd t (by decide)
     exact (b9.chg g1 d9).chg g2 a1
   · have a0:qw w n:=a5.drew.trans (Q.o.below (B:=w.heap.size) a5.drew.size (fun k hk e=>by simp[Value.ownBlock]at e;omega))
     exact (a0.setCell (p:=⟨_,0,none⟩) (by simp;omega) _).setCell (p:=⟨_,0,none⟩) (by simp) _
end ReMem
namespace ReMem
open Go Go.RowKit MatchMath
theorem wp_spreadS {o:Oper} {a:Act} {K:Act->World->Prop} {Q:Exit->Act->World->Prop} (w:World) (s x:Operand)
  (t:o.op=.call {callee:=.builtin .append,args:=#[s,x],argTypes:=#[40,40]}) (base:Nat) (v:Value) (l:List Span) (u:a.eval s=v) (j:Own.Row w base 53 2 v l.length (Az l))
  (mv:Value) (m:List Span) (hx:a.eval x=mv) (hm:Al w mv m) (hsz:l.length+m.length<=1099511627776) (hb:base<=w.heap.size)
  (h:∀g e,Own.Row e base 53 2 g (l.length+m.length) (Az (l++m))->Chg (fun k=>some k=v.ownBlock) w e->K (a.put o.dst g) e):Oper.wp Tryz.prog o a w K Q:=by
 obtain⟨z,hi,n,p,q⟩:=info_parts Qr;by_cases hm0:m= []
 ·subst hm0
  obtain⟨A,r,rfl⟩:=hm.shape;have d:=Al.of_row j;obtain⟨G,I,rfl⟩:=d.shape;have c:=d.len.2.1;exact Fc w s x 40 t 53 z underlying40 hi G l.length I c u A r hx (h _ w (by simpa using j) (Chg.refl _ w))
 ·obtain⟨A,r,rfl⟩:=hm.shape
  have i:0<m.length:=List.length_pos_iff.2 hm0;obtain⟨y,E⟩:∃y,m[0]? =some y:=⟨_,List.getElem?_eq_getElem i⟩;obtain⟨b,off,B, -, -⟩:=hm.at E;subst B;obtain⟨g,e,hr,C,D,J⟩:=Own.Gg (P:=Tryz.prog) w base 40 o.type 53 z (.agg #[.int .i64 0,.int .i64 0]) 2 16 underlying40 hi n p q rfl (by decide) v l.length (Az l) j ⟨b,off,none⟩ m.length r (Az m) (Gj m) hm.news (Hu m) (by unfold maxLen;omega) (by omega) hb;unfold Oper.wp execOp;simp only[t,resolve,invoke,builtin,Sem.run_bind,Sem.run_pure,Result.andThen_ok,List.map_toArray,List.map_cons,List.map_nil,u,hx,hr];exact h g e (by rw[show Az (l++m)=Az l++Az m from List.flatMap_append];exact C) (Chg.grown D)
theorem step_spreadS {ops:Array Oper} {o:Oper} {a:Act} {K:Act->World->Prop} {Q:Exit->Act->World->Prop} {E:Prop} (w:World) (b:o.guard=none) (s x:Operand)
  (c:o.op=.call {callee:=.builtin .append,args:=#[s,x],argTypes:=#[40,40]}) (base:Nat) (v:Value) (l:List Span) (e:a.eval s=v) (d:Own.Row w base 53 2 v l.length (Az l))
  (mv:Value) (m:List Span) (hx:a.eval x=mv) (hm:Al w mv m) (hsz:l.length+m.length<=1099511627776) (hb:base<=w.heap.size)
  (h:∀v' w',Own.Row w' base 53 2 v' (l.length+m.length) (Az (l++m))->Chg (fun k=>some k=v.ownBlock) w w'->K (a.put o.dst v') w'):if Region.wanted o (yielded ops a.tmps)=true then Oper.wp Tryz.prog o a w K Q else E:=by
 have g:Region.wanted o (yielded ops a.tmps)=true:=by simp[Region.wanted,b]
 rw[if_pos g];exact wp_spreadS w s x c base v l e d mv m hx hm hsz hb h
theorem atP_any (s:ByteArray) (P:Bool) (e:Re) (v:Value) (i:Nat) (w:World) (T:Lies w v e.args) (K:Ag e) (a2:Bz e=0) (a5:size e<=100) (hk:Af 6 e<=4096) (a3:gok (Af 6 e) e=true) (hi:i<=s.size) (b4:s.size<=4096) (ht:Tabs w):
  Calls Tryz.prog 35 #[Ac v e,.string s,.int .i64 i,.bool P] w (ARes w ((Gt (tx s P) e i).map fun x=>x.map (Am i))):=by
 have t:=qh (fun W (hw:qw w W)=>topP_any s P e v i W (T.stays hw) K a2 a5 hk a3 hi b4 (ht.stays hw));obtain⟨R,hR⟩:∃R,(tx s P).parses e i (List.replicate (Af 6 e) Cj)=R:=⟨_,rfl⟩;have HM:Hid (Gt (tx s P) e i=R.map List.head?):=by show _=_;rw[<- hR];rfl
 rw[HM.o];rw[hR]at t;have a7:Hid (∀l,R=some l->∀q∈l,q.2.length<=4096):=fun l T q hq=>by
  have n:=Dd (tx s P) e i (List.replicate (Af 6 e) Cj) l (by rw[show (tx s P).s.length=s.size from Ce s];exact hi) (Ik _ _) (hR.trans T) q hq;have h2:=n.2.2.1;rw[List.length_replicate]at h2;omega
 have d9:(i:Int)<=(s.size:Int):=by omega
 have e4:(s.size:Int)<=4096:=by omega
 obtain⟨va,vc,rfl⟩:=T.shape;have c9:e.args.length<=9223372036854775807:=by
  obtain⟨a,c,vs,n,⟨h2,h3⟩, -⟩:=T.opened;exact Nat.le_trans h2 h3
 unfold Ac at t ⊢;clear T K a2 a5 hk a3 hR HM ht;have S:=qh ((qb w (.cells #[.int .i64 e.op,.int .u64 (Sets.Aa e.set 0:Nat),.int .u64 (Sets.Aa e.set 1:Nat),.int .u64 (Sets.Aa e.set 2:Nat),.int .u64 (Sets.Aa e.set 3:Nat),.int .i64 e.lo,.int .i64 e.hi,.int .i64 e.group,.slice va e.args.length vc] 28)).alloc (by simp) (.cells #[.slice none 0 0] 42));have C:=heap_alloc_new (w.alloc (.cells #[.int .i64 e.op,.int .u64 (Sets.Aa e.set 0:Nat),.int .u64 (Sets.Aa e.set 1:Nat),.int .u64 (Sets.Aa e.set 2:Nat),.int .u64 (Sets.Aa e.set 3:Nat),.int .i64 e.lo,.int .i64 e.hi,.int .i64 e.group,.slice va e.args.length vc] 28)) (.cells #[.slice none 0 0] 42);have e0:(w.alloc (.cells #[.int .i64 e.op,.int .u64 (Sets.Aa e.set 0:Nat),.int .u64 (Sets.Aa e.set 1:Nat),.int .u64 (Sets.Aa e.set 2:Nat),.int .u64 (Sets.Aa e.set 3:Nat),.int .i64 e.lo,.int .i64 e.hi,.int .i64 e.group,.slice va e.args.length vc] 28)).heap.size=w.heap.size+1:=by simp
 rw[e0]at C;have j:=qh C;clear C e0;cases R with
 |none=>
  go_enter func35,ntmps35;go_wp2_with (first
   | (go_at_call 61
      (refine (t.o _ S.o).mono ?_);rintro e1 g ⟨n,h⟩;obtain rfl:=n;have u:=qh (Ab S.o h);have d:=h.block _ (qd j.o);rw[j.o]at d;have c1:g.cell? ⟨w.heap.size+1,0,none⟩=some (.slice none 0 0):=by rw[qc d];rfl
      have z1:g.frozen? ⟨w.heap.size+1,0,none⟩=false:=by unfold World.frozen?;rw[d];simp
      clear h d))
  have c2:(g.setCell ⟨w.heap.size+1,0,none⟩ (.slice none 0 0)).cell? ⟨w.heap.size+1,0,none⟩=some (.slice none 0 0):=Aq c1;try simp only[Exit.inBlock,Exit.then]
  refine bodyPost_ret (v:=.tuple #[.agg #[.slice none 0 0],.bool false,.int .i64 11]) (by simp[results,results35,go_sem,c2]) rfl ?_;exact⟨rfl,u.o.setCell (Nat.le_succ _) _⟩
 | some l=>
 rcases l with _ | ⟨p,r⟩
 ·go_enter func35,ntmps35
  go_wp2_with (first
   | (go_at_call 61
      (refine (t.o _ S.o).mono ?_);rintro e1 g ⟨n,h⟩;obtain⟨pv,rfl,m⟩:=n;obtain⟨pa,pc,rfl⟩:=m.form;simp only[List.length_nil];have u:=qh (Ab S.o h);have d:=h.block _ (qd j.o);rw[j.o]at d;have c1:g.cell? ⟨w.heap.size+1,0,none⟩=some (.slice none 0 0):=by rw[qc d];rfl
      have z1:g.frozen? ⟨w.heap.size+1,0,none⟩=false:=by unfold World.frozen?;rw[d];simp
      clear h d m))
  have c2:(g.setCell ⟨w.heap.size+1,0,none⟩ (.slice none 0 0)).cell? ⟨w.heap.size+1,0,none⟩=some (.slice none 0 0):=Aq c1;try simp only[Exit.inBlock,Exit.then]
  refine bodyPost_ret (v:=.tuple #[.agg #[.slice none 0 0],.bool false,.int .i64 0]) (by simp[results,results35,go_sem,c2]) rfl ?_;exact⟨rfl,u.o.setCell (Nat.le_succ _) _⟩
 ·go_enter func35,ntmps35
  go_wp2_with (first
   | (go_at_call 61
      (refine (t.o _ S.o).mono ?_);rintro e1 g ⟨n,h⟩;obtain⟨pv,rfl,m⟩:=n;obtain⟨pa,pc,rfl⟩:=m.form;have b8:=qh m;have e3:=m.lies.len.2;obtain⟨b,off,sv,e2,y1,y2,I⟩:=m.lies.at (show (p::r)[0]? =some p from rfl);subst e2;obtain⟨sa,sc,rfl⟩:=I.shape;have e5:=I.len.2;have b1:=qh I;simp only[Nat.zero_mul,Nat.add_zero]at y1 y2;have u:=qh (Ab S.o h);have d:=h.block _ (qd j.o);rw[j.o]at d;have c1:g.cell? ⟨w.heap.size+1,0,none⟩=some (.slice none 0 0):=by rw[qc d];rfl
      have z1:g.frozen? ⟨w.heap.size+1,0,none⟩=false:=by unfold World.frozen?;rw[d];simp
      have X:=qh d;have V:=qh (m.lt b rfl);clear h d m I))
  have a8:=qh (a7.o _ rfl p (by simp));have a1:w.heap.size+1+1<=b:=by have n:=V.o.1;simp at n;omega
  have U:=qh a1;have N:=qh (fun W (hw:qw g W)=>And.intro (upc hw y1) (upc hw y2));have y:=qh (((Below.refl g.heap.size g).drew).alloc ql (.cells #[.int .i64 (i:Int),.int .i64 (p.1:Int)] 53));have M:=qh (N.o _ y.o);have L:Hid (Own.Row (g.drew.alloc (.cells #[.int .i64 (i:Int),.int .i64 (p.1:Int)] 53)) g.heap.size 53 2 (.slice (some ⟨g.heap.size,0,none⟩) 1 1) [((i:Int),(p.1:Int))].length (Az [((i:Int),(p.1:Int))])):=by
   have h0:World.ownsRow (g.drew.alloc (.cells #[.int .i64 (i:Int),.int .i64 (p.1:Int)] 53)) g.heap.size 53 2 (.slice (some ⟨g.heap.size,0,none⟩) 1 1) 1 [.int .i64 (i:Int),.int .i64 (p.1:Int)]:=⟨rfl,.inr ⟨g.heap.size,1,_,rfl,ql,heap_alloc_new g.drew _,ql,by unfold maxLen;omega,rfl,rfl⟩⟩;exact Own.Row.of h0
  have Y:=qh (b1.o.stays y.o);have A:=(qd X.o);have z:Hid (w.heap.size+1<g.heap.size):=A;have a0:Hid (b<g.heap.size):=World.block_lt_of_cell? g _ y1;have b7:(i:Int)<=4096:=by omega
  clear c1 z1 A
  go_region_held3 (fun w'=>w'.cell? ⟨b,off,none⟩=some (.int .i64 (p.1:Int))/\w'.cell? ⟨b,off+1,none⟩=some (.slice sa p.2.length sc)) (first | exact N.o _ (Below.refl _ _) | exact N.o _ ((Below.refl _ g).drew) | exact M.o | exact b2.o | exact b3.o)
   ((refine step_spreadS _ (by rfl) _ _ (by rfl) g.heap.size (.slice (some ⟨g.heap.size,0,none⟩) 1 1) [((i:Int),(p.1:Int))] (by rfl) L.o (.slice sa p.2.length sc) p.2 (by rfl) Y.o (by have:=a8.o;simp;omega) y.o.size ?_
     intro v7 Q a4 B;have O:Al Q v7 (Am i p):=Al.of_row (l:=Am i p) (by rw[show (Am i p).length= [((i:Int),(p.1:Int))].length+p.2.length by simp[Am];omega];exact a4);obtain⟨D,E,rfl⟩:∃a c,v7=.slice a (1+p.2.length) c:=by
       obtain⟨a,c,e⟩:=O.shape;exact⟨a,c,by rw[e,show (Am i p).length=1+p.2.length by simp[Am];omega]⟩
     have b0:=qh O;have a6:=qh B;have G:=(B.block (w.heap.size+1) (Nat.lt_of_lt_of_le z.o y.o.size) (fun e=>by have n:=z.o;simp[Value.ownBlock]at e;omega)).trans ((y.o.block _ z.o).trans X.o);have a9:=qh G;have c7:Q.cell? ⟨w.heap.size+1,0,none⟩=some (.slice none 0 0):=by rw[qc G];rfl
     have z7:Q.frozen? ⟨w.heap.size+1,0,none⟩=false:=by unfold World.frozen?;rw[G];simp
     have J:=And.intro (B.cell M.o.1 (fun e=>by have n:=a0.o;simp[Value.ownBlock]at e;omega)) (B.cell M.o.2 (fun e=>by have n:=a0.o;simp[Value.ownBlock]at e;omega));have b2:=qh J;have b3:=qh (And.intro ((Ad (v:=.slice D (1+p.2.length) E) (p:=⟨w.heap.size+1,0,none⟩) (by have n:=U.o;first | (simp;done) | (simp;omega))).trans J.1) ((Ad (v:=.slice D (1+p.2.length) E) (p:=⟨w.heap.size+1,0,none⟩) (by have n:=U.o;first | (simp;done) | (simp;omega))).trans J.2))
     clear a4 B G J O))
  go_wp2_with fail
  have c8:(Q.setCell ⟨w.heap.size+1,0,none⟩ (.slice D (1+p.2.length) E)).cell? ⟨w.heap.size+1,0,none⟩=some (.slice D (1+p.2.length) E):=Aq c7;try simp only[Exit.inBlock,Exit.then]
  refine bodyPost_ret (v:=.tuple #[.agg #[.slice D (1+p.2.length) E],.bool true,.int .i64 0]) (by simp[results,results35,go_sem,c8]) rfl ?_;refine⟨⟨_,rfl,?_⟩,?_⟩
  ·have b6:NoSp (fun k=>k=w.heap.size+1) Q:=fun k b9 fz e hg=>by
     subst e;rw[a9.o]at hg;injection hg with hg;injection hg with _ n _;exact absurd n (by decide)
   exact b0.o.chg (Chg.setCell Q (w.heap.size+1) 0 _) b6
  ·have b5:qw w Q:=(u.o.trans (y.o.mono u.o.size)).trans (a6.o.below (Nat.le_trans u.o.size y.o.size) (fun k hk e=>by have n:=z.o;simp[Value.ownBlock]at e;omega))
   exact b5.setCell (p:=⟨_,0,none⟩) (by show w.heap.size<=w.heap.size+1;omega) _
end ReMem
end Go.Proofs.YtjefcpjciogcjaaGreatDoor
