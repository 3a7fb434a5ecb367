/- Lemmas for the walk of the law, in 3 parts. No condition beyond what each states. -/
import Derived.Test.YtjefcpjciogcjaaGreatDoorG24
import Derived.Test.YtjefcpjciogcjaaGreatDoorG2
namespace Go.Proofs.YtjefcpjciogcjaaGreatDoor
set_option maxRecDepth 100000
set_option linter.unusedVariables false
set_option maxHeartbeats 16000000
open Tryz
namespace ReMem
open Go Go.RowKit MatchMath
theorem TB.ic {B:Nat} {w b:World} {g:Nat} {a:List Value} (h:TB w g a) (c:IC B w b):TB b g a:=(c.keep g _ _ _ (by decide) h).trans h
theorem refRepC_plus (k:Nat) (a:World) (N:Nat) (hp:RCode k a N) (x:Re) (s:Nat->Bool) (l h g:Int) (Q v:Value) (m:Nat) (w:World) (b2:l=1) (L:size x<N) (e:gok k x=true) (hl:Lies a Q [x]) (P:qw a w) (hi:IRow w a.heap.size v m) (hm:m+3*size (Re.mk 5 s l h g [x])<=1048576):
  Calls Tryz.prog 98 #[v,Ac Q (.mk 5 s l h g [x])] w fun r w'=>∃v',r=.returned v'/\IRow w' a.heap.size v' (m+Ah x+1)/\IC a.heap.size w w':=by
 subst b2;have K:m+3*size x+3<=1048576:=by simp only[size,sizes]at hm;omega
 have b0:=Cf k x e;have A:Hid (m+Ah x<=1048576):=by show _<=_;omega
 obtain⟨E,O,vs,rfl,⟨b3,b1⟩,ho⟩:=hl.opened;have HO:=qh ho;obtain⟨la,lc,rfl⟩:=hi.form;have b9:(m:Int)<=1048576:=by omega
 have b7:Hid (m<=1048576):=by show _<=_;omega
 have a0:=qh P.size;have u:=qh (qb w (.cells (WA 5 s 1 h g (.slice E 1 O)) 28));have a8:Hid (TB (w.alloc (.cells (WA 5 s 1 h g (.slice E 1 O)) 28)) w.heap.size (WL 5 s 1 h g (.slice E 1 O))):=TB.new w (WL 5 s 1 h g (.slice E 1 O));have a6:=qh (hi.stays u.o);have B:Hid (IC a.heap.size w (w.alloc (.cells (WA 5 s 1 h g (.slice E 1 O)) 28))):=IC.of u.o P.size;have q:=qh (P.trans B.o.below);unfold Ac;simp only[Re.op,Re.set,Re.lo,Re.hi,Re.group,List.length_singleton,List.length_nil];clear hl hi P;have b6:=qh K;obtain⟨d0,d1,d2,d3,d4,d5,d6,d7,d8⟩:=a8.o.nine;obtain⟨t,Q,b,off,ht,hv,e1,⟨S,T,U,V,X,Y,x6,x7,x8⟩,i,J,b4⟩:=HO.o.at (j:=0) (by simp);obtain rfl:x=t:=by simpa using ht
 subst e1;have C:=qh (fun W v n (c:qw a W) (hi:IRow W a.heap.size v n) (hn:n+3*size x<=1048576)=>hp x Q v n W L e J i c hi hn);obtain⟨c9,d9,rfl⟩:=i.shape;unfold Ac at C;simp only[Nat.zero_mul,Nat.add_zero]at S T U V X Y x6 x7 x8;have a9:=qh (fun W (c:qw a W)=>And.intro (upc c S) (And.intro (upc c T) (And.intro (upc c U) (And.intro (upc c V) (And.intro (upc c X) (And.intro (upc c Y) (And.intro (upc c x6) (And.intro (upc c x7) (upc c x8)))))))));clear S T U V X Y x6 x7 x8;obtain⟨R,M⟩:∃y,m+Ah x=y:=⟨_,rfl⟩;have d:=qh M;have b5:(R:Int)<=1048576:=by have:=A.o;omega
 have a7:Hid (m+3*size x<=1048576):=by show _<=_;omega
 clear i J b4 ht hv M hm K b0 hp L e ho b3 b1;obtain⟨S,T,U,V,X,Y,x6,x7,x8⟩:=a9.o _ q.o;rw[d.o];go_enter func98,ntmps98;go_wp2_with (first
  | (go_at_call 73
     (refine (C.o _ _ m q.o a6.o a7.o).mono ?_);rintro b8 w2 ⟨v2,rfl,p,G⟩;rw[d.o]at p;have a3:=qh p;have z:=qh (B.o.trans G);obtain⟨a2,c2,rfl⟩:=p.form;have D:Hid (a.heap.size<=w2.heap.size):=by show _<=_;have h1:=a0.o;have p:=z.o.below.size;omega
     clear p G)
  | (at_builtin
     refine Cr _ rfl _ _ rfl a.heap.size (.slice a2 R c2) R (by rfl) a3.o [.int .i64 2,.int .u64 0,.int .u64 0,.int .u64 0,.int .u64 0,.int .i64 (m:Int),.int .i64 ((R:Int)+1)] rfl (by simp[Value.oneCell']) _ rfl (by rfl) (by have h1:=d.o;have p:=A.o;omega) D.o ?_;intro v4 w4 h4 I;have a5:=qh h4;have a1:=qh (z.o.trans I);obtain⟨a4,c4,rfl⟩:=h4.form;clear h4 I))
 go_ret;exact⟨_,rfl,a5.o,a1.o⟩
theorem refRepC_neg (k:Nat) (c:World) (N:Nat) (hp:RCode k c N) (x:Re) (s:Nat->Bool) (l h g:Int) (tv v:Value) (m:Nat) (w:World) (R:l≠1) (hh:h<0) (T:size x<N) (u:gok k x=true) (hl:Lies c tv [x]) (hb:qw c w) (hi:IRow w c.heap.size v m) (hm:m+3*size (Re.mk 5 s l h g [x])<=1048576):
  Calls Tryz.prog 98 #[v,Ac tv (.mk 5 s l h g [x])] w fun r w'=>∃v',r=.returned v'/\IRow w' c.heap.size v' (m+Ah x+2)/\IC c.heap.size w w':=by
 have b0:(l==1)=false:=beq_eq_false_iff_ne.2 R;have S:m+3*size x+3<=1048576:=by simp only[size,sizes]at hm;omega
 have b3:=Cf k x u;have E:Hid (m+Ah x<=1048576):=by show _<=_;omega
 obtain⟨M,V,vs,rfl,⟨b5,b4⟩,ho⟩:=hl.opened;have HO:=qh ho;obtain⟨la,lc,rfl⟩:=hi.form;have e0:(m:Int)<=1048576:=by omega
 have a8:Hid (m<=1048576):=by show _<=_;omega
 have B:=qh hb.size;have C:=qh (qb w (.cells (WA 5 s l h g (.slice M 1 V)) 28));have K:Hid (TB (w.alloc (.cells (WA 5 s l h g (.slice M 1 V)) 28)) w.heap.size (WL 5 s l h g (.slice M 1 V))):=TB.new w (WL 5 s l h g (.slice M 1 V));have a7:=qh (hi.stays C.o);have G:Hid (IC c.heap.size w (w.alloc (.cells (WA 5 s l h g (.slice M 1 V)) 28))):=IC.of C.o hb.size;have a0:=qh (hb.trans G.o.below);unfold Ac;simp only[Re.op,Re.set,Re.lo,Re.hi,Re.group,List.length_singleton,List.length_nil];clear hl hi hb;have c9:=qh S;obtain⟨d0,d1,d2,d3,d4,d5,d6,d7,d8⟩:=K.o.nine;obtain⟨t,tv,b,off,ht,hv,e1,⟨X,Y,x2,x3,x4,x5,x6,x7,x8⟩,z,Q,b6⟩:=HO.o.at (j:=0) (by simp);obtain rfl:x=t:=by simpa using ht
 subst e1;have I:=qh (fun W v n (d:qw c W) (hi:IRow W c.heap.size v n) (hn:n+3*size x<=1048576)=>hp x tv v n W T u Q z d hi hn);obtain⟨e2,e3,rfl⟩:=z.shape;unfold Ac at I;simp only[Nat.zero_mul,Nat.add_zero]at X Y x2 x3 x4 x5 x6 x7 x8;have b2:=qh (fun W (d:qw c W)=>And.intro (upc d X) (And.intro (upc d Y) (And.intro (upc d x2) (And.intro (upc d x3) (And.intro (upc d x4) (And.intro (upc d x5) (And.intro (upc d x6) (And.intro (upc d x7) (upc d x8)))))))));clear X Y x2 x3 x4 x5 x6 x7 x8;obtain⟨A,U⟩:∃y,m+1+Ah x=y:=⟨_,rfl⟩;have a:=qh U;have b7:(A:Int)<=1048577:=by have:=E.o;omega
 have b8:(m:Int)< (A:Int):=by omega
 have b9:(m:Int)< (A:Int)+1:=by omega
 have a9:Hid (m+1+3*size x<=1048576):=by show _<=_;omega
 clear z Q b6 ht hv U hm S b3 hp T u ho b5 b4 R;rw[show m+Ah x+2=A+1 by have:=a.o;omega];go_enter func98,ntmps98
 go_upto_region 6 with (first
  | (at_builtin
     refine Cr _ rfl _ _ rfl c.heap.size (.slice la m lc) m (by rfl) a7.o [.int .i64 2,.int .u64 0,.int .u64 0,.int .u64 0,.int .u64 0,.int .i64 ((m:Int)+1),.int .i64 0] rfl (by simp[Value.oneCell']) (w.heap.size+1) (by simp) (by rfl) (by have p:=a8.o;omega) (Nat.le_succ_of_le B.o) ?_;intro v1 w1 O e;have a4:=qh O;have a2:=qh (G.o.trans e);obtain⟨a1,c1,rfl⟩:=O.form;have i:=qh (a0.o.trans e.below);have L:=qh (K.o.ic e);clear d0 d1 d2 d3 d4 d5 d6 d7 d8;obtain⟨d0,d1,d2,d3,d4,d5,d6,d7,d8⟩:=L.o.nine;obtain⟨X,Y,x2,x3,x4,x5,x6,x7,x8⟩:=b2.o _ i.o;clear O e))
 go_upto_region 7 with (first
  | (go_at_call 73
     (refine (I.o _ _ (m+1) i.o a4.o a9.o).mono ?_);rintro d9 w2 ⟨v2,rfl,p,q⟩;rw[a.o]at p;have a5:=qh p;have D:=qh (a2.o.trans q);obtain⟨g2,c2,rfl, -⟩:=p.spot (k:=m) (by have:=a.o;omega);have b1:=qh (L.o.ic q);have J:Hid (c.heap.size<=w2.heap.size):=by show _<=_;have O:=B.o;have p:=D.o.below.size;omega
     clear d0 d1 d2 d3 d4 d5 d6 d7 d8 X Y x2 x3 x4 x5 x6 x7 x8;obtain⟨d0,d1,d2,d3,d4,d5,d6,d7,d8⟩:=b1.o.nine;clear p q))
 go_upto_region 9 with (first
  | (at_builtin
     refine Cr _ rfl _ _ rfl c.heap.size (.slice (some ⟨g2,0,none⟩) A c2) A (by rfl) a5.o [.int .i64 3,.int .u64 0,.int .u64 0,.int .u64 0,.int .u64 0,.int .i64 (m:Int),.int .i64 0] rfl (by simp[Value.oneCell']) _ rfl (by rfl) (by have O:=a.o;have p:=E.o;omega) J.o ?_;intro v4 w4 h4 P;have a6:=qh h4;have a3:=qh (D.o.trans P);obtain⟨g4,c4,rfl, -⟩:=h4.spot (k:=m) (by have:=a.o;omega);obtain⟨-, -,hx,hz, -, -⟩:=h4.spot' (k:=m) (by have:=a.o;omega);obtain⟨s6,c6⟩:=hx 6 (by omega);have z6:=hz 6 (by omega);clear h4 P hx hz d0 d1 d2 d3 d4 d5 d6 d7 d8))
 go_wp2;go_ret;have h6:=a6.o.spot' (k:=m) (by have:=a.o;omega);exact⟨_,rfl,h6.2.2.2.2.1 _ _,a3.o.trans (h6.2.2.2.2.2 _ _)⟩
theorem refRepC_pos (k:Nat) (a:World) (N:Nat) (hp:RCode k a N) (x:Re) (s:Nat->Bool) (l h g:Int) (tv v:Value) (m:Nat) (w:World) (M:l≠1) (hh:¬h<0) (P:size x<N) (q:gok k x=true) (hl:Lies a tv [x]) (hb:qw a w) (hi:IRow w a.heap.size v m) (hm:m+3*size (Re.mk 5 s l h g [x])<=1048576):
  Calls Tryz.prog 98 #[v,Ac tv (.mk 5 s l h g [x])] w fun r w'=>∃v',r=.returned v'/\IRow w' a.heap.size v' (m+Ah x+1)/\IC a.heap.size w w':=by
 have b0:(l==1)=false:=beq_eq_false_iff_ne.2 M;have O:m+3*size x+3<=1048576:=by simp only[size,sizes]at hm;omega
 have b1:=Cf k x q;have a3:Hid (m+Ah x<=1048576):=by show _<=_;omega
 obtain⟨K,R,vs,rfl,⟨b3,b2⟩,ho⟩:=hl.opened;have HO:=qh ho;obtain⟨la,lc,rfl⟩:=hi.form;have d9:(m:Int)<=1048576:=by omega
 have a6:Hid (m<=1048576):=by show _<=_;omega
 have A:=qh hb.size;have B:=qh (qb w (.cells (WA 5 s l h g (.slice K 1 R)) 28));have I:Hid (TB (w.alloc (.cells (WA 5 s l h g (.slice K 1 R)) 28)) w.heap.size (WL 5 s l h g (.slice K 1 R))):=TB.new w (WL 5 s l h g (.slice K 1 R));have a5:=qh (hi.stays B.o);have D:Hid (IC a.heap.size w (w.alloc (.cells (WA 5 s l h g (.slice K 1 R)) 28))):=IC.of B.o hb.size;have a0:=qh (hb.trans D.o.below);unfold Ac;simp only[Re.op,Re.set,Re.lo,Re.hi,Re.group,List.length_singleton,List.length_nil];clear hl hi hb;have b9:=qh O;obtain⟨d0,d1,d2,d3,d4,d5,d6,d7,d8⟩:=I.o.nine;obtain⟨t,tv,b,off,ht,hv,e1,⟨S,T,U,V,X,Y,x6,x7,x8⟩,u,L,b4⟩:=HO.o.at (j:=0) (by simp);obtain rfl:x=t:=by simpa using ht
 subst e1;have G:=qh (fun W v n (d:qw a W) (hi:IRow W a.heap.size v n) (hn:n+3*size x<=1048576)=>hp x tv v n W P q L u d hi hn);obtain⟨e0,e2,rfl⟩:=u.shape;unfold Ac at G;simp only[Nat.zero_mul,Nat.add_zero]at S T U V X Y x6 x7 x8;have a9:=qh (fun W (d:qw a W)=>And.intro (upc d S) (And.intro (upc d T) (And.intro (upc d U) (And.intro (upc d V) (And.intro (upc d X) (And.intro (upc d Y) (And.intro (upc d x6) (And.intro (upc d x7) (upc d x8)))))))));clear S T U V X Y x6 x7 x8;obtain⟨u2,Q⟩:∃y,m+1+Ah x=y:=⟨_,rfl⟩;have c:=qh Q;have b6:(u2:Int)<=1048577:=by have:=a3.o;omega
 have b7:(m:Int)< (u2:Int):=by omega
 have b8:(m:Int)< (u2:Int)+1:=by omega
 have a7:Hid (m+1+3*size x<=1048576):=by show _<=_;omega
 clear u L b4 ht hv Q hm O b1 hp P q ho b3 b2 M;rw[show m+Ah x+1=u2 by have:=c.o;omega];go_enter func98,ntmps98
 go_upto_region 6 with (first
  | (at_builtin
     refine Cr _ rfl _ _ rfl a.heap.size (.slice la m lc) m (by rfl) a5.o [.int .i64 2,.int .u64 0,.int .u64 0,.int .u64 0,.int .u64 0,.int .i64 ((m:Int)+1),.int .i64 0] rfl (by simp[Value.oneCell']) (w.heap.size+1) (by simp) (by rfl) (by have z:=a6.o;omega) (Nat.le_succ_of_le A.o) ?_;intro v1 w1 h1 e;have a4:=qh h1;have a2:=qh (D.o.trans e);obtain⟨a1,c1,rfl⟩:=h1.form;have i:=qh (a0.o.trans e.below);have J:=qh (I.o.ic e);clear d0 d1 d2 d3 d4 d5 d6 d7 d8;obtain⟨d0,d1,d2,d3,d4,d5,d6,d7,d8⟩:=J.o.nine;obtain⟨S,T,U,V,X,Y,x6,x7,x8⟩:=a9.o _ i.o;clear h1 e))
 go_upto_region 7 with (first
  | (go_at_call 73
     (refine (G.o _ _ (m+1) i.o a4.o a7.o).mono ?_);rintro c9 w2 ⟨v2,rfl,z,p⟩;rw[c.o]at z;have E:=qh z;have C:=qh (a2.o.trans p);obtain⟨g2,c2,rfl, -⟩:=z.spot (k:=m) (by have:=c.o;omega);have a8:=qh (J.o.ic p);have b5:Hid (a.heap.size<=w2.heap.size):=by show _<=_;have h1:=A.o;have z:=C.o.below.size;omega
     clear d0 d1 d2 d3 d4 d5 d6 d7 d8 S T U V X Y x6 x7 x8;obtain⟨d0,d1,d2,d3,d4,d5,d6,d7,d8⟩:=a8.o.nine;clear z p))
 obtain⟨-, -,hx,hz, -, -⟩:=E.o.spot' (k:=m) (by have:=c.o;omega);obtain⟨s6,c6⟩:=hx 6 (by omega);have z6:=hz 6 (by omega);clear hx hz;go_wp2;go_ret;have h6:=E.o.spot' (k:=m) (by have:=c.o;omega);exact⟨_,rfl,h6.2.2.2.2.1 _ _,C.o.trans (h6.2.2.2.2.2 _ _)⟩
theorem refCodeC_none {o:Int} (C:o=1\/o=9) (k:Nat) (b:World) (N:Nat) (D:RCode k b N) (s:Nat->Bool) (l h g:Int) (t v:Value) (m:Nat) (w:World) (u:Lies b t []) (n:qw b w) (hi:IRow w b.heap.size v m) (A:m+3*size (Re.mk o s l h g [])<=1048576):
  Calls Tryz.prog 73 #[v,Ac t (.mk o s l h g [])] w fun r w'=>∃v',r=.returned v'/\IRow w' b.heap.size v' (m+0)/\IC b.heap.size w w':=by
 obtain⟨i,j,rfl⟩:∃a c,t=.slice a 0 c:=u.shape;obtain⟨E,G,rfl⟩:=hi.form;have B:(m:Int)<=1048576:=by omega
 have z:Hid (m<=1048576):=by show _<=_;omega
 have x:=qh n.size;have d:=qh (qb w (.cells (WA o s l h g (.slice i 0 j)) 28));have q:Hid (TB (w.alloc (.cells (WA o s l h g (.slice i 0 j)) 28)) w.heap.size (WL o s l h g (.slice i 0 j))):=TB.new w (WL o s l h g (.slice i 0 j));have p:=qh (hi.stays d.o);have e:Hid (IC b.heap.size w (w.alloc (.cells (WA o s l h g (.slice i 0 j)) 28))):=IC.of d.o n.size;have y:=qh (n.trans e.o.below);unfold Ac;simp only[Re.op,Re.set,Re.lo,Re.hi,Re.group,List.length_singleton,List.length_nil];clear u hi n A D;obtain⟨d0,d1,d2,d3,d4,d5,d6,d7,d8⟩:=q.o.nine;rcases C with rfl | rfl;all_goals
  go_enter func73,ntmps73;go_wp2;go_ret;exact⟨_,rfl,p.o,e.o⟩
theorem refCodeC_2 (k:Nat) (b:World) (N:Nat) (I:RCode k b N) (s:Nat->Bool) (l h g:Int) (B v:Value) (m:Nat) (w:World) (C:Lies b B []) (p:qw b w) (hi:IRow w b.heap.size v m) (E:m+3*size (Re.mk 2 s l h g [])<=1048576):
  Calls Tryz.prog 73 #[v,Ac B (.mk 2 s l h g [])] w fun r w'=>∃v',r=.returned v'/\IRow w' b.heap.size v' (m+1)/\IC b.heap.size w w':=by
 obtain⟨j,n,rfl⟩:∃a c,B=.slice a 0 c:=C.shape;obtain⟨J,K,rfl⟩:=hi.form;have G:(m:Int)<=1048576:=by omega
 have y:Hid (m<=1048576):=by show _<=_;omega
 have q:=qh p.size;have d:=qh (qb w (.cells (WA 2 s l h g (.slice j 0 n)) 28));have z:Hid (TB (w.alloc (.cells (WA 2 s l h g (.slice j 0 n)) 28)) w.heap.size (WL 2 s l h g (.slice j 0 n))):=TB.new w (WL 2 s l h g (.slice j 0 n));have x:=qh (hi.stays d.o);have e:Hid (IC b.heap.size w (w.alloc (.cells (WA 2 s l h g (.slice j 0 n)) 28))):=IC.of d.o p.size;have D:=qh (p.trans e.o.below);unfold Ac;simp only[Re.op,Re.set,Re.lo,Re.hi,Re.group,List.length_singleton,List.length_nil];clear C hi p E I;obtain⟨d0,d1,d2,d3,d4,d5,d6,d7,d8⟩:=z.o.nine;go_enter func73,ntmps73;go_wp2_with (first
  | (at_builtin
     refine Cr _ rfl _ _ rfl b.heap.size (.slice J m K) m (by rfl) x.o [.int .i64 1,.int .u64 (Sets.Aa s 0:Nat),.int .u64 (Sets.Aa s 1:Nat),.int .u64 (Sets.Aa s 2:Nat),.int .u64 (Sets.Aa s 3:Nat),.int .i64 0,.int .i64 0] rfl (by simp[Value.oneCell']) (w.heap.size+1) (by simp) (by rfl) (by have M:=y.o;omega) (Nat.le_succ_of_le q.o) ?_;intro O P A i;have u:=qh A;have t:=qh (e.o.trans i);obtain⟨L,c1,rfl⟩:=A.form;clear A i))
 go_ret;exact⟨_,rfl,u.o,t.o⟩
theorem refCodeC_7 (k:Nat) (b:World) (N:Nat) (I:RCode k b N) (s:Nat->Bool) (l h g:Int) (B v:Value) (m:Nat) (w:World) (C:Lies b B []) (p:qw b w) (hi:IRow w b.heap.size v m) (E:m+3*size (Re.mk 7 s l h g [])<=1048576):
  Calls Tryz.prog 73 #[v,Ac B (.mk 7 s l h g [])] w fun r w'=>∃v',r=.returned v'/\IRow w' b.heap.size v' (m+1)/\IC b.heap.size w w':=by
 obtain⟨j,n,rfl⟩:∃a c,B=.slice a 0 c:=C.shape;obtain⟨J,K,rfl⟩:=hi.form;have G:(m:Int)<=1048576:=by omega
 have y:Hid (m<=1048576):=by show _<=_;omega
 have q:=qh p.size;have d:=qh (qb w (.cells (WA 7 s l h g (.slice j 0 n)) 28));have z:Hid (TB (w.alloc (.cells (WA 7 s l h g (.slice j 0 n)) 28)) w.heap.size (WL 7 s l h g (.slice j 0 n))):=TB.new w (WL 7 s l h g (.slice j 0 n));have x:=qh (hi.stays d.o);have e:Hid (IC b.heap.size w (w.alloc (.cells (WA 7 s l h g (.slice j 0 n)) 28))):=IC.of d.o p.size;have D:=qh (p.trans e.o.below);unfold Ac;simp only[Re.op,Re.set,Re.lo,Re.hi,Re.group,List.length_singleton,List.length_nil];clear C hi p E I;obtain⟨d0,d1,d2,d3,d4,d5,d6,d7,d8⟩:=z.o.nine;go_enter func73,ntmps73;go_wp2_with (first
  | (at_builtin
     refine Cr _ rfl _ _ rfl b.heap.size (.slice J m K) m (by rfl) x.o [.int .i64 4,.int .u64 0,.int .u64 0,.int .u64 0,.int .u64 0,.int .i64 0,.int .i64 0] rfl (by simp[Value.oneCell']) (w.heap.size+1) (by simp) (by rfl) (by have M:=y.o;omega) (Nat.le_succ_of_le q.o) ?_;intro O P A i;have u:=qh A;have t:=qh (e.o.trans i);obtain⟨L,c1,rfl⟩:=A.form;clear A i))
 go_ret;exact⟨_,rfl,u.o,t.o⟩
theorem refCodeC_8 (k:Nat) (b:World) (N:Nat) (I:RCode k b N) (s:Nat->Bool) (l h g:Int) (B v:Value) (m:Nat) (w:World) (C:Lies b B []) (p:qw b w) (hi:IRow w b.heap.size v m) (E:m+3*size (Re.mk 8 s l h g [])<=1048576):
  Calls Tryz.prog 73 #[v,Ac B (.mk 8 s l h g [])] w fun r w'=>∃v',r=.returned v'/\IRow w' b.heap.size v' (m+1)/\IC b.heap.size w w':=by
 obtain⟨j,n,rfl⟩:∃a c,B=.slice a 0 c:=C.shape;obtain⟨J,K,rfl⟩:=hi.form;have G:(m:Int)<=1048576:=by omega
 have y:Hid (m<=1048576):=by show _<=_;omega
 have q:=qh p.size;have d:=qh (qb w (.cells (WA 8 s l h g (.slice j 0 n)) 28));have z:Hid (TB (w.alloc (.cells (WA 8 s l h g (.slice j 0 n)) 28)) w.heap.size (WL 8 s l h g (.slice j 0 n))):=TB.new w (WL 8 s l h g (.slice j 0 n));have x:=qh (hi.stays d.o);have e:Hid (IC b.heap.size w (w.alloc (.cells (WA 8 s l h g (.slice j 0 n)) 28))):=IC.of d.o p.size;have D:=qh (p.trans e.o.below);unfold Ac;simp only[Re.op,Re.set,Re.lo,Re.hi,Re.group,List.length_singleton,List.length_nil];clear C hi p E I;obtain⟨d0,d1,d2,d3,d4,d5,d6,d7,d8⟩:=z.o.nine;go_enter func73,ntmps73;go_wp2_with (first
  | (at_builtin
     refine Cr _ rfl _ _ rfl b.heap.size (.slice J m K) m (by rfl) x.o [.int .i64 5,.int .u64 0,.int .u64 0,.int .u64 0,.int .u64 0,.int .i64 0,.int .i64 0] rfl (by simp[Value.oneCell']) (w.heap.size+1) (by simp) (by rfl) (by have M:=y.o;omega) (Nat.le_succ_of_le q.o) ?_;intro O P A i;have u:=qh A;have t:=qh (e.o.trans i);obtain⟨L,c1,rfl⟩:=A.form;clear A i))
 go_ret;exact⟨_,rfl,u.o,t.o⟩
theorem refCodeC_6 (k:Nat) (c:World) (N:Nat) (hp:RCode k c N) (x:Re) (s:Nat->Bool) (l h g:Int) (L v:Value) (m:Nat) (w:World) (E:size x<N) (C:gok k x=true) (hl:Lies c L [x]) (K:qw c w) (hi:IRow w c.heap.size v m) (hm:m+3*size (Re.mk 6 s l h g [x])<=1048576):
  Calls Tryz.prog 73 #[v,Ac L (.mk 6 s l h g [x])] w fun r w'=>∃v',r=.returned v'/\IRow w' c.heap.size v' (m+Ah x)/\IC c.heap.size w w':=by
 have D:m+3*size x<=1048576:=by simp only[size,sizes]at hm;omega
 obtain⟨z,I,vs,rfl,⟨a6,a5⟩,ho⟩:=hl.opened;have HO:=qh ho;obtain⟨la,lc,rfl⟩:=hi.form;have b1:(m:Int)<=1048576:=by omega
 have a9:Hid (m<=1048576):=by show _<=_;omega
 have a8:=qh K.size;have i:=qh (qb w (.cells (WA 6 s l h g (.slice z 1 I)) 28));have a3:Hid (TB (w.alloc (.cells (WA 6 s l h g (.slice z 1 I)) 28)) w.heap.size (WL 6 s l h g (.slice z 1 I))):=TB.new w (WL 6 s l h g (.slice z 1 I));have a0:=qh (hi.stays i.o);have p:Hid (IC c.heap.size w (w.alloc (.cells (WA 6 s l h g (.slice z 1 I)) 28))):=IC.of i.o K.size;have e:=qh (K.trans p.o.below);unfold Ac;simp only[Re.op,Re.set,Re.lo,Re.hi,Re.group,List.length_singleton,List.length_nil];clear hl hi K;have a1:=qh D;obtain⟨d0,d1,d2,d3,d4,d5,d6,d7,d8⟩:=a3.o.nine;obtain⟨t,L,b,off,ht,hv,e1,⟨M,O,P,Q,R,S,T,U,V⟩,d,B,a7⟩:=HO.o.at (j:=0) (by simp);obtain rfl:x=t:=by simpa using ht
 subst e1;have q:=qh (fun W v n (a:qw c W) (hi:IRow W c.heap.size v n) (hn:n+3*size x<=1048576)=>hp x L v n W E C B d a hi hn);obtain⟨b2,b3,rfl⟩:=d.shape;unfold Ac at q;simp only[Nat.zero_mul,Nat.add_zero]at M O P Q R S T U V;have a4:=qh (fun W (a:qw c W)=>And.intro (upc a M) (And.intro (upc a O) (And.intro (upc a P) (And.intro (upc a Q) (And.intro (upc a R) (And.intro (upc a S) (And.intro (upc a T) (And.intro (upc a U) (upc a V)))))))));clear M O P Q R S T U V;obtain⟨u2,G⟩:∃y,m+Ah x=y:=⟨_,rfl⟩;have u:=qh G;clear d B a7 ht hv G hm D hp E C ho a6 a5;obtain⟨M,O,P,Q,R,S,T,U,V⟩:=a4.o _ e.o;rw[u.o];go_enter func73,ntmps73;go_wp2_with (first
  | (go_at_call 73
     (refine (q.o _ _ m e.o a0.o a1.o).mono ?_);rintro b0 w2 ⟨v2,rfl,J,A⟩;rw[u.o]at J;have Y:=qh J;have X:=qh (p.o.trans A);obtain⟨a2,c2,rfl⟩:=J.form;clear J A))
 go_ret;exact⟨_,rfl,Y.o,X.o⟩
theorem refCodeC_5 (k:Nat) (b:World) (N:Nat) (C:RCode k b N) (x:Re) (s:Nat->Bool) (l h g:Int) (j v:Value) (m:Nat) (w:World) (e:size x<N) (d:gok k x=true) (t:Lies b j [x]) (i:qw b w) (hi:IRow w b.heap.size v m) (B:m+3*size (Re.mk 5 s l h g [x])<=1048576):
  Calls Tryz.prog 73 #[v,Ac j (.mk 5 s l h g [x])] w fun r w'=>∃v',r=.returned v'/\IRow w' b.heap.size v' (m+Ah (.mk 5 s l h g [x]))/\IC b.heap.size w w':=by
 have HR:=qh (fun W v (i:qw b W) (hi:IRow W b.heap.size v m)=>(show Calls Tryz.prog 98 #[v,Ac j (.mk 5 s l h g [x])] W fun r w'=>∃v',r=.returned v'/\IRow w' b.heap.size v' (m+Ah (.mk 5 s l h g [x]))/\IC b.heap.size W w' from by
  by_cases hl1:l=1
  ·rw[show Ah (.mk 5 s l h g [x])=Ah x+1 by simp[Ah,Ak,hl1],<-Nat.add_assoc]
   exact refRepC_plus k b N C x s l h g j v m W hl1 e d t i hi B
  ·by_cases hh:h<0
   ·  rw[show Ah (.mk 5 s l h g [x])=Ah x+2 by simp[Ah,Ak,hl1,hh],<-Nat.add_assoc]
      exact refRepC_neg k b N C x s l h g j v m W hl1 hh e d t i hi B
   ·  rw[show Ah (.mk 5 s l h g [x])=Ah x+1 by simp[Ah,Ak,hl1,hh],<-Nat.add_assoc]
      exact refRepC_pos k b N C x s l h g j v m W hl1 hh e d t i hi B))
 obtain⟨z,A,rfl⟩:∃a c,j=.slice a 1 c:=t.shape;unfold Ac at HR;simp only[Re.op,Re.set,Re.lo,Re.hi,Re.group]at HR;obtain⟨T,u⟩:∃y,m+Ah (Re.mk 5 s l h g [x])=y:=⟨_,rfl⟩;rw[u]at HR ⊢;obtain⟨R,S,rfl⟩:=hi.form;have P:(m:Int)<=1048576:=by omega
 have M:Hid (m<=1048576):=by show _<=_;omega
 have L:=qh i.size;have n:=qh (qb w (.cells (WA 5 s l h g (.slice z 1 A)) 28));have J:Hid (TB (w.alloc (.cells (WA 5 s l h g (.slice z 1 A)) 28)) w.heap.size (WL 5 s l h g (.slice z 1 A))):=TB.new w (WL 5 s l h g (.slice z 1 A));have I:=qh (hi.stays n.o);have p:Hid (IC b.heap.size w (w.alloc (.cells (WA 5 s l h g (.slice z 1 A)) 28))):=IC.of n.o i.size;have D:=qh (i.trans p.o.below);unfold Ac;simp only[Re.op,Re.set,Re.lo,Re.hi,Re.group,List.length_singleton,List.length_nil];clear t hi i B C e d u;obtain⟨d0,d1,d2,d3,d4,d5,d6,d7,d8⟩:=J.o.nine;go_enter func73,ntmps73;go_wp2_with (first
  | (go_at_call 98
     (refine (HR.o _ _ D.o I.o).mono ?_);rintro O V ⟨U,rfl,K,q⟩;have G:=qh K;have E:=qh (p.o.trans q);obtain⟨Q,c2,rfl⟩:=K.form;clear K q))
 go_ret;exact⟨_,rfl,G.o,E.o⟩
theorem refCodeC_4 (k:Nat) (a:World) (N:Nat) (I:RCode k a N) (args:List Re) (s:Nat->Bool) (l h g:Int) (E v:Value) (m:Nat) (w:World) (e:2<=args.length) (n:∀t∈args,size t<N) (j:gokL k args=true) (D:Lies a E args) (b:qw a w) (hi:IRow w a.heap.size v m) (G:m+3*size (Re.mk 4 s l h g args)<=1048576):
  Calls Tryz.prog 73 #[v,Ac E (.mk 4 s l h g args)] w fun r w'=>∃v',r=.returned v'/\IRow w' a.heap.size v' (m+Ak args+2*(args.length-1))/\IC a.heap.size w w':=by
 have HR:=qh (fun W v (b:qw a W) (hi:IRow W a.heap.size v m)=>refAltC_any k a N I args E v m W e n j D b hi (by unfold size at G;omega));obtain⟨q,u,rfl⟩:=D.shape;obtain⟨R,p⟩:∃y,m+Ak args+2*(args.length-1)=y:=⟨_,rfl⟩;rw[p]at HR ⊢;obtain⟨P,Q,rfl⟩:=hi.form;have M:(m:Int)<=1048576:=by omega
 have K:Hid (m<=1048576):=by show _<=_;omega
 have J:=qh b.size;have c:=qh (qb w (.cells (WA 4 s l h g (.slice q args.length u)) 28));have C:Hid (TB (w.alloc (.cells (WA 4 s l h g (.slice q args.length u)) 28)) w.heap.size (WL 4 s l h g (.slice q args.length u))):=TB.new w (WL 4 s l h g (.slice q args.length u));have B:=qh (hi.stays c.o);have d:Hid (IC a.heap.size w (w.alloc (.cells (WA 4 s l h g (.slice q args.length u)) 28))):=IC.of c.o b.size;have x:=qh (b.trans d.o.below);unfold Ac;simp only[Re.op,Re.set,Re.lo,Re.hi,Re.group,List.length_singleton,List.length_nil];clear D hi b G I n j p;obtain⟨d0,d1,d2,d3,d4,d5,d6,d7,d8⟩:=C.o.nine;go_enter func73,ntmps73;go_wp2_with (first
  | (go_at_call 97
     (refine (HR.o _ _ x.o B.o).mono ?_);rintro L T ⟨S,rfl,e,i⟩;have A:=qh e;have z:=qh (d.o.trans i);obtain⟨O,c2,rfl⟩:=e.form;clear e i))
 go_ret;exact⟨_,rfl,A.o,z.o⟩
theorem refCodeC_3 (k:Nat) (a:World) (N:Nat) (hp:RCode k a N) (args:List Re) (s:Nat->Bool) (l h g:Int) (z v:Value) (m:Nat) (w:World) (S:∀t∈args,size t<N) (i:gokL k args=true) (hl:Lies a z args) (M:qw a w) (hi:IRow w a.heap.size v m) (hm:m+3*size (Re.mk 3 s l h g args)<=1048576):
  Calls Tryz.prog 73 #[v,Ac z (.mk 3 s l h g args)] w fun r w'=>∃v',r=.returned v'/\IRow w' a.heap.size v' (m+Ak args)/\IC a.heap.size w w':=by
 have V:=qh M;have R:m+3*sizes args<=1048576:=by unfold size at hm;omega
 have a9:=Bc args;have b5:(args.length:Int)<=1048576:=by omega
 have a3:=qh R;have Y:=qh i;have HP:=qh (fun t z v n W (x:t∈args)=>hp t z v n W (S t x) (Bk i x));obtain⟨A,B,vs,rfl,⟨a8,a7⟩,ho⟩:=hl.opened;have HO:=qh ho;obtain⟨la,lc,rfl⟩:=hi.form;have b6:(m:Int)<=1048576:=by omega
 have b3:Hid (m<=1048576):=by show _<=_;omega
 have b1:=qh M.size;have D:=qh (qb w (.cells (WA 3 s l h g (.slice A args.length B)) 28));have L:Hid (TB (w.alloc (.cells (WA 3 s l h g (.slice A args.length B)) 28)) w.heap.size (WL 3 s l h g (.slice A args.length B))):=TB.new w (WL 3 s l h g (.slice A args.length B));have a1:=qh (hi.stays D.o);have E:Hid (IC a.heap.size w (w.alloc (.cells (WA 3 s l h g (.slice A args.length B)) 28))):=IC.of D.o M.size;have b2:=qh (M.trans E.o.below);unfold Ac;simp only[Re.op,Re.set,Re.lo,Re.hi,Re.group,List.length_singleton,List.length_nil];clear hl hi M hm hp S i R a9 ho a8 a7;obtain⟨d0,d1,d2,d3,d4,d5,d6,d7,d8⟩:=L.o.nine;go_enter func73,ntmps73;go_wp2;clear d0 d1 d2 d3 d4 d5 d6 d7 d8
 go_loopw [0,5] (fun lv ix wr=>∃(q u:Nat) (lv':Value),q<=args.length/\ix=.int .i64 q/\lv'=lv/\Hid (u=m+Ak (args.take q))/\IRow wr a.heap.size lv' u/\TB wr w.heap.size (WL 3 s l h g (.slice A args.length B))/\IC a.heap.size w wr) (fun _ ix _=>args.length-(intOf ix).toNat)
 case atStart=>exact⟨0,m,_,Nat.zero_le _,rfl,rfl,(by show _=_;simp[Ak]),a1.o,L.o,E.o⟩
 case round=>
  obtain⟨q,u,lv,hq,rfl,rfl,HU,p,y,j⟩:=hrel;have I:=qh p;have a4:=qh y;have G:=qh j;have C:Hid (qw a wr):=V.o.trans j.below;obtain⟨oa,oc,rfl⟩:=p.form;obtain⟨d0,d1,d2,d3,d4,d5,d6,d7,d8⟩:=y.nine;clear p y j;by_cases hqt:q<args.length
  ·have b0:(q:Int)< (args.length:Int):=by omega
   have HQ:=qh hqt;obtain⟨t,z,b,off,x,hv,e1,⟨x0,x1,x2,x3,x4,x5,x6,x7,x8⟩,P,O,Q⟩:=(HO.o.stays C.o).at hqt;subst e1;have c:=HO.o.sub q t z x hv;have J:=qh (fun W v n (hw:qw a W) (hi:IRow W a.heap.size v n) (hn:n+3*size t<=1048576)=>HP.o t z v n W Q O c hw hi hn);obtain⟨b7,b8,rfl⟩:=P.shape;unfold Ac at J;have a5:=qh (Ck x);have K:Hid (u+3*size t<=1048576):=by
    show _<=_;have T:=HU.out;have h3:=Bv k args Y.o q t x;have h4:=a3.o;omega
   clear P O Q x hv c hqt hq;go_wp2_with (first
    | (go_at_call 73
       (refine (J.o _ _ u C.o I.o K.o).mono ?_);rintro b4 w2 ⟨v2,rfl,U,d⟩;have a0:=qh U;have X:=qh (G.o.trans d);have a6:=qh (a4.o.ic d);obtain⟨a2,c2,rfl⟩:=U.form;clear U d))
   go_roundw
   case rel=>exact⟨q+1,u+Ah t,_,HQ.o,by go_num,rfl,(by show _=_;have T:=HU.out;have U:=a5.o;omega),a0.o,a6.o,X.o⟩
   case measure=>have:=HQ.o;simp[intOf];omega
  ·have b0:¬(q:Int)< (args.length:Int):=by omega
   have e:m+Ak args=u:=by have T:=HU.out;rw[List.take_of_length_le (by omega)]at T;exact T.symm
   have HE:=qh e;clear hq hqt e;go_wp2;go_ret;exact⟨_,rfl,by rw[HE.o];exact I.o,G.o⟩
theorem Lm (k:Nat) (a:World):∀N,RCode k a N
 | 0=>fun t tv v m w hs=>absurd hs (by omega)
 |N+1=>fun t tv v m w hs hg hf hl hb hi hm=>by
  have hp:=Lm k a N;obtain⟨o,s,l,h,g,args⟩:=t;obtain⟨i,n,p,d⟩:=He hg;have b:∀t∈args,size t<N:=fun t e=>by have i:=Hl e;unfold size at hs;omega
  have c:∀t∈args,gok k t=true:=fun t e=>Bk d e;rcases Ek i with ⟨rfl | rfl | rfl,rfl, -⟩ | ⟨rfl,rfl, -⟩ | ⟨rfl | rfl,j, -⟩ | ⟨rfl,⟨x,rfl⟩, -⟩ | ⟨rfl,⟨x,rfl⟩, -⟩ | ⟨rfl,rfl, -⟩
  ·rw[show Ah (.mk 1 s l h g [])=0 by simp[Ah,Ak]]
   exact refCodeC_none (by decide) k a N hp s l h g tv v m w hl hb hi hm
  ·rw[show Ah (.mk 7 s l h g [])=1 by simp[Ah]]
   exact refCodeC_7 k a N hp s l h g tv v m w hl hb hi hm
  ·rw[show Ah (.mk 8 s l h g [])=1 by simp[Ah]]
   exact refCodeC_8 k a N hp s l h g tv v m w hl hb hi hm
  ·rw[show Ah (.mk 2 s l h g [])=1 by simp[Ah]]
   exact refCodeC_2 k a N hp s l h g tv v m w hl hb hi hm
  ·rw[show Ah (.mk 3 s l h g args)=Ak args by simp[Ah]]
   exact refCodeC_3 k a N hp args s l h g tv v m w b d hl hb hi hm
  ·rw[show Ah (.mk 4 s l h g args)=Ak args+2*(args.length-1) by simp[Ah],<-Nat.add_assoc]
   exact refCodeC_4 k a N hp args s l h g tv v m w j b d hl hb hi hm
  · exact refCodeC_5 k a N hp x s l h g tv v m w (b x (by simp)) (c x (by simp)) hl hb hi hm
  ·rw[show Ah (.mk 6 s l h g [x])=Ah x by simp[Ah,Ak]]
   exact refCodeC_6 k a N hp x s l h g tv v m w (b x (by simp)) (c x (by simp)) hl hb hi hm
  ·rw[show Ah (.mk 9 s l h g [])=0 by simp[Ah,Ak]]
   exact refCodeC_none (by decide) k a N hp s l h g tv v m w hl hb hi hm
end ReMem
namespace ReMem
open Go Go.RowKit MatchMath
def Fo (e:Re):Int:=if grown e<=4096/\Ah (Ae e)+1<=4096 then 0 else 3
def CRes (w:World) (z:Int) (r:Ending) (w':World):Prop:=(∃a n c b,r=.returned (.tuple #[.agg #[.slice a n c,.bool b],.int .i64 z]))/\qw w w'
def PB2 (w:World) (g:Nat) (u v:Value):Prop:=w.heap[g]? =some (.cells #[u,v] 96)
theorem PB2.stays {w a:World} {g:Nat} {u v:Value} (h:PB2 w g u v) (b:qw w a):PB2 a g u v:=(b.block _ (qd h)).trans h
theorem PB2.low {w a:World} {g B:Nat} {u v:Value} (h:PB2 w g u v) (b:Below B w a) (c:g<B):PB2 a g u v:=(b.block _ c).trans h
theorem PB2.facts {w:World} {g:Nat} {u v:Value} (h:PB2 w g u v):w.cell? ⟨g,0,none⟩=some u/\w.cell? ⟨g,1,none⟩=some v/\w.frozen? ⟨g,0,none⟩=false/\w.frozen? ⟨g,1,none⟩=false/\g<w.heap.size:=by
 refine⟨by rw[qc h];rfl,by rw[qc h];rfl,?_,?_,(qd h)⟩ <;> (unfold PB2 at h;unfold World.frozen?;rw[h];simp)
theorem PB2.set {w:World} {g:Nat} {u v:Value} (h:PB2 w g u v) (x y:Value):PB2 ((w.setCell ⟨g,0,none⟩ x).setCell ⟨g,1,none⟩ y) g x y:=by
 unfold PB2 at*;have a:(w.setCell ⟨g,0,none⟩ x).heap[g]? =some (.cells #[x,v] 96 (0,0)):=by
  rw[setCell_eq_setRow w g _ _ _ _ _ h,setRow_heap w g _ _ _ _ h];rfl
 rw[setCell_eq_setRow _ g _ _ _ _ _ a,setRow_heap _ g _ _ _ _ a];rfl
theorem compR_big (e:Re) (v:Value) (ln:Bool) (w:World) (M:size e<=100) (i:Bf e=true) (K:bnd e=true) (C:Hb 9 e=false) (L:4096<grown e) (D:Ag e) (z:Lies w v e.args):
  Calls Tryz.prog 43 #[Ac v e,.bool ln] w (CRes w 3):=by
 have y:=(Ar e).2 i;have g:=qh (fun W (hw:qw w W)=>Bw e v W (by omega) D (z.stays hw));rw[y]at g;have d:=qh (fun W (hw:qw w W)=>Jq (size e+1) e v W (Nat.lt_succ_self _) D (z.stays hw));rw[C]at d;have h:=qh (fun W (hw:qw w W)=>ExpTopR_big e v W M i K L D (z.stays hw));obtain⟨j,l,rfl⟩:=z.shape;have m:=qh ((qb w (.cells (xA e j l) 28)).alloc (by simp) (.cells #[.slice none 0 0,.bool false] 96));have I:Hid (PB2 ((w.alloc (.cells (xA e j l) 28)).alloc (.cells #[.slice none 0 0,.bool false] 96)) (w.heap.size+1) (.slice none 0 0) (.bool false)):=by
  have:=heap_alloc_new (w.alloc (.cells (xA e j l) 28)) (.cells #[.slice none 0 0,.bool false] 96);rw[show (w.alloc (.cells (xA e j l) 28)).heap.size=w.heap.size+1 from by simp]at this;exact this
 have G:Hid (TB ((w.alloc (.cells (xA e j l) 28)).alloc (.cells #[.slice none 0 0,.bool false] 96)) w.heap.size (xL e j l)):=(TB.new w (xL e j l)).stays ((Below.refl _ _).alloc ql _);unfold Ac at g d h ⊢;try simp only[Re.op,Re.set,Re.lo,Re.hi,Re.group,Re.args]at h
 clear z D K M i y L C;go_enter func43,ntmps43;go_wp2_with (first
  | (go_at_call 37
     (refine (g.o _ m.o).mono ?_);rintro x w1 ⟨rfl,a⟩;have n:=qh (Ab m.o a);have t:=qh (I.o.stays a);have c:=qh (G.o.stays a);obtain⟨N,O,P,Q,R,S,T,U,V⟩:=c.o.nine;clear a)
  | (go_at_call 42
     (refine (d.o _ n.o).mono ?_);rintro x w2 ⟨rfl,a⟩;have q:=qh (Ab n.o a);have u:=qh (t.o.stays a);have r:=qh (c.o.stays a);clear N O P Q R S T U V;obtain⟨N,O,P,Q,R,S,T,U,V⟩:=r.o.nine;clear a)
  | (go_at_call 72
     (refine (h.o _ q.o).mono ?_);rintro x J ⟨rfl,a⟩;have E:=qh (Ab q.o a);have b:=qh (u.o.stays a);obtain⟨d0,d1,z0,z1,A⟩:=b.o.facts;have X:=qh A;obtain⟨Y,a0,a1,a2,B⟩:=(b.o.stays (qb J (.cells (ZA0) 28))).facts;clear d0 d1 z0 z1 B;clear a A))
 have en:=((b.o.stays (qb J (.cells (ZA0) 28))).set (.slice none 0 0) (.bool false)).facts;obtain⟨n0,n1, -, -, -⟩:=en;try simp only[Exit.inBlock,Exit.then]
 refine bodyPost_ret (v:=.tuple #[.agg #[.slice none 0 0,.bool false],.int .i64 3]) (by simp[results,results43,go_sem,n0,n1]) rfl ?_;refine⟨⟨_,_,_,_,rfl⟩,?_⟩;exact ((Ab E.o (qb J (.cells (ZA0) 28))).setCell (p:=⟨_,0,none⟩) (by show w.heap.size<=w.heap.size+1;omega) _).setCell (p:=⟨_,1,none⟩) (by show w.heap.size<=w.heap.size+1;omega) _
theorem compR_small (e:Re) (v:Value) (ln:Bool) (w:World) (hs:size e<=100) (m:Bf e=true) (hb:bnd e=true) (a2:Hb 9 e=false) (hg:grown e<=4096) (ec:Int) (hc:4096<Ah (Ae e)+1/\ec=3\/Ah (Ae e)+1<=4096/\ec=0) (J:Ag e) (D:Lies w v e.args):
  Calls Tryz.prog 43 #[Ac v e,.bool ln] w (CRes w ec):=by
 have a0:=(Ar e).2 m;have y:=qh (fun W (hw:qw w W)=>Bw e v W (by omega) J (D.stays hw));rw[a0]at y;have x:=qh (fun W (hw:qw w W)=>Jq (size e+1) e v W (Nat.lt_succ_self _) J (D.stays hw));rw[a2]at x;have j:=qh (fun W (hw:qw w W)=>Nx e v W hs m hb hg J (D.stays hw));have C:=Jx e m;have b7:=Gh _ e C;have n:=Iq _ e C;have E:=Cf _ _ n;have a6:size (Ae e)<=4096:=by omega
 obtain⟨⟨X,Y,V,U,T,u⟩,a7⟩:∃tr,Ae e=tr:=⟨_,rfl⟩;rw[a7]at j n E a6 hc;obtain⟨L,hL⟩:∃L,Ah (Re.mk X Y V U T u)=L:=⟨_,rfl⟩;have i:=qh (fun W v (J:Ag (Re.mk X Y V U T u)) (D:Lies W v u)=>Lm _ W 4097 (Re.mk X Y V U T u) v (.slice none 0 0) 0 W (by omega) n J D (Below.refl _ _) (IRow.nil _ _) (by omega));rw[hL]at i hc E;have b8:(L:Int)<=20000:=by omega
 have A:4096< (L:Int)+1/\ec=3\/(L:Int)+1<=4096/\ec=0:=by omega
 have b3:Hid (L<=20000):=by show _<=_;omega
 obtain⟨G,I,rfl⟩:=D.shape;have K:=qh ((qb w (.cells (xA e G I) 28)).alloc (by simp) (.cells #[.slice none 0 0,.bool false] 96));have b6:Hid (PB2 ((w.alloc (.cells (xA e G I) 28)).alloc (.cells #[.slice none 0 0,.bool false] 96)) (w.heap.size+1) (.slice none 0 0) (.bool false)):=by
  have:=heap_alloc_new (w.alloc (.cells (xA e G I) 28)) (.cells #[.slice none 0 0,.bool false] 96);rw[show (w.alloc (.cells (xA e G I) 28)).heap.size=w.heap.size+1 from by simp]at this;exact this
 have b5:Hid (TB ((w.alloc (.cells (xA e G I) 28)).alloc (.cells #[.slice none 0 0,.bool false] 96)) w.heap.size (xL e G I)):=(TB.new w (xL e G I)).stays ((Below.refl _ _).alloc ql _);unfold Ac at y x j i ⊢;try simp only[Re.op,Re.set,Re.lo,Re.hi,Re.group,Re.args]at i j
 clear D J hb hs m a0 hg a2 C b7 n E a6 a7 hL hc;rcases A with ⟨A,rfl⟩ | ⟨A,rfl⟩;all_goals
  go_enter func43,ntmps43;go_wp2_with (first
   | (go_at_call 37
      (refine (y.o _ K.o).mono ?_);rintro z w1 ⟨rfl,b⟩;have M:=qh (Ab K.o b);have R:=qh (b6.o.stays b);have q:=qh (b5.o.stays b);obtain⟨x0,x1,x2,x3,x4,x5,x6,x7,x8⟩:=q.o.nine;clear b)
   | (go_at_call 42
      (refine (x.o _ M.o).mono ?_);rintro z w2 ⟨rfl,b⟩;have N:=qh (Ab M.o b);have S:=qh (R.o.stays b);have Q:=qh (q.o.stays b);clear x0 x1 x2 x3 x4 x5 x6 x7 x8;obtain⟨x0,x1,x2,x3,x4,x5,x6,x7,x8⟩:=Q.o.nine;clear b)
   | (go_at_call 72
      (refine (j.o _ N.o).mono ?_);rintro z w3 ⟨⟨v3,rfl,h3,a1⟩,b⟩;obtain⟨a3,c3,rfl⟩:∃a c,v3=.slice a u.length c:=h3.lies.shape;simp only[Re.op,Re.set,Re.lo,Re.hi,Re.group];have b0:=qh a1;have b2:=qh h3.lies;have d:=qh (qb w3 (.cells (WA X Y V U T (.slice a3 u.length c3)) 28));clear h3 a1;have O:=qh (Ab N.o b);have r:=qh (S.o.stays b);obtain⟨d0,d1,z0,z1,g⟩:=r.o.facts;have b4:=qh g;clear b g)
   | (go_at_call 73
      (refine (i.o _ (.slice a3 u.length c3) b0.o (b2.o.stays d.o)).mono ?_);rintro z w4 ⟨v4,rfl,h4,l⟩;rw[Nat.zero_add]at h4;have b1:=qh h4;have a8:=qh (Ab (Ab O.o d.o) l.below);have P:=qh l.below.size;have t:=qh ((r.o.stays d.o).stays l.below);obtain⟨a4,c4,rfl⟩:=h4.form;clear d0 d1 z0 z1;obtain⟨d0,d1,z0,z1,g⟩:=t.o.facts;clear h4 l g)
   | (at_builtin
      refine Cr _ rfl _ _ rfl (w3.alloc (.cells (WA X Y V U T (.slice a3 u.length c3)) 28)).heap.size (.slice a4 L c4) L (by rfl) b1.o [.int .i64 6,.int .u64 0,.int .u64 0,.int .u64 0,.int .u64 0,.int .i64 0,.int .i64 0] rfl (by simp[Value.oneCell']) _ rfl (by rfl) (by have h2:=b3.o;omega) P.o ?_;intro v5 w5 h5 B;have a9:=qh (a8.o.trans (B.below.mono (by have h1:=O.o.size;have h2:=d.o.size;omega)));have h:=qh (t.o.low B.below (by have h1:=b4.o;have h2:=d.o.size;omega));obtain⟨a5,c5,rfl⟩:=h5.form;clear d0 d1 z0 z1;obtain⟨d0,d1,z0,z1,g⟩:=h.o.facts;clear h5 B g))
  first
  | (have en:=((h.o).set (.slice none 0 0) (.bool false)).facts
     obtain⟨n0,n1, -, -, -⟩:=en;try simp only[Exit.inBlock,Exit.then]
     refine bodyPost_ret (v:=.tuple #[.agg #[.slice none 0 0,.bool false],.int .i64 3]) ?_ rfl ?_
     focus (simp [results,results43,go_sem,n0,n1];done))
  | (have en:=((h.o).set (.slice a5 (L+1) c5) (.bool ln)).facts
     obtain⟨n0,n1, -, -, -⟩:=en;try simp only[Exit.inBlock,Exit.then]
     refine bodyPost_ret (v:=.tuple #[.agg #[.slice a5 (L+1) c5,.bool ln],.int .i64 0]) ?_ rfl ?_
     focus (simp [results,results43,go_sem,n0,n1];done))
  refine⟨⟨_,_,_,_,rfl⟩,?_⟩;exact ((a9.o).setCell (p:=⟨_,0,none⟩) (by show w.heap.size<=w.heap.size+1;omega) _).setCell (p:=⟨_,1,none⟩) (by show w.heap.size<=w.heap.size+1;omega) _
theorem compR_any (e:Re) (v:Value) (c:Bool) (w:World) (j:size e<=100) (a:Bf e=true) (d:bnd e=true) (b:Hb 9 e=false) (g:Ag e) (i:Lies w v e.args):
  Calls Tryz.prog 43 #[Ac v e,.bool c] w (CRes w (Fo e)):=by
 unfold Fo;by_cases hg:grown e<=4096
 ·by_cases hc:Ah (Ae e)+1<=4096
  ·rw[if_pos ⟨hg,hc⟩]
   exact compR_small e v c w j a d b hg 0 (.inr ⟨hc,rfl⟩) g i
  ·rw[if_neg (fun h=>hc h.2)]
   exact compR_small e v c w j a d b hg 3 (.inl ⟨by omega,rfl⟩) g i
 ·rw[if_neg (fun h=>hg h.1)]
  exact compR_big e v c w j a d b (by omega) g i
end ReMem
namespace ReMem
open Go Go.RowKit MatchMath
def Bn (p:ByteArray) (f gr:Int) (v:Value) (e:Re):Value:=.agg #[.string p,.int .i64 f,.int .i64 gr,.int .i64 e.op,.int .u64 (Sets.Aa e.set 0:Nat),.int .u64 (Sets.Aa e.set 1:Nat),.int .u64 (Sets.Aa e.set 2:Nat),.int .u64 (Sets.Aa e.set 3:Nat),.int .i64 e.lo,.int .i64 e.hi,.int .i64 e.group,v]
def RX (w:World) (b:Nat) (p:ByteArray) (f gr:Int) (v:Value) (e:Re):Prop:=w.heap[b]? =some (.cells #[.string p,.int .i64 f,.int .i64 gr,.int .i64 e.op,.int .u64 (Sets.Aa e.set 0:Nat),.int .u64 (Sets.Aa e.set 1:Nat),.int .u64 (Sets.Aa e.set 2:Nat),.int .u64 (Sets.Aa e.set 3:Nat),.int .i64 e.lo,.int .i64 e.hi,.int .i64 e.group,v] 30)
theorem RX.new (w:World) (p:ByteArray) (f a:Int) (v:Value) (e:Re):RX (w.alloc (.cells #[.string p,.int .i64 f,.int .i64 a,.int .i64 e.op,.int .u64 (Sets.Aa e.set 0:Nat),.int .u64 (Sets.Aa e.set 1:Nat),.int .u64 (Sets.Aa e.set 2:Nat),.int .u64 (Sets.Aa e.set 3:Nat),.int .i64 e.lo,.int .i64 e.hi,.int .i64 e.group,v] 30)) w.heap.size p f a v e:=heap_alloc_new w _
theorem RX.stays {w c:World} {b:Nat} {p:ByteArray} {f a:Int} {v:Value} {e:Re} (h:RX w b p f a v e) (d:qw w c):RX c b p f a v e:=(d.block _ (qd h)).trans h
theorem RX.facts {w:World} {b:Nat} {p:ByteArray} {f a:Int} {v:Value} {e:Re} (h:RX w b p f a v e):
  w.cell? ⟨b,0,none⟩=some (.string p)/\w.cell? ⟨b,1,none⟩=some (.int .i64 f)/\w.cell? ⟨b,2,none⟩=some (.int .i64 a)/\w.cell? ⟨b,3,none⟩=some (.int .i64 e.op)/\w.cell? ⟨b,4,none⟩=some (.int .u64 (Sets.Aa e.set 0:Nat))/\w.cell? ⟨b,5,none⟩=some (.int .u64 (Sets.Aa e.set 1:Nat))/\w.cell? ⟨b,6,none⟩=some (.int .u64 (Sets.Aa e.set 2:Nat))/\w.cell? ⟨b,7,none⟩=some (.int .u64 (Sets.Aa e.set 3:Nat))/\w.cell? ⟨b,8,none⟩=some (.int .i64 e.lo)/\w.cell? ⟨b,9,none⟩=some (.int .i64 e.hi)/\w.cell? ⟨b,10,none⟩=some (.int .i64 e.group)/\w.cell? ⟨b,11,none⟩=some v:=by
 refine⟨?_,?_,?_,?_,?_,?_,?_,?_,?_,?_,?_,?_⟩ <;> (rw [qc h];rfl)
theorem Ob (e:Re):Fo e=0\/Fo e=3:=by
 unfold Fo;split
 · exact .inl rfl
 · exact .inr rfl
def Lk (e:Re):Bool:=decide (Af 9 e≠0)||decide (Fo e=0)
theorem Tj {e:Re} (h:Af 9 e≠0):Lk e=true:=by unfold Lk;simp[h]
theorem Wu {e:Re} (h:Af 9 e=0):Lk e=decide (Fo e=0):=by unfold Lk;simp[h]
theorem Xq (e:Re) (c f:Int) (n:Nat) (a:Bf e=true) (b:c=(Af 6 e:Int)) (d:0<=f/\f<=7) (g:n<=256):Cd e c f n=Lk e:=by
 unfold Cd Lk compiles Fo;rw[a,decide_eq_true b,decide_eq_true d,decide_eq_true g];by_cases h9:Af 9 e=0
 · by_cases hg:grown e<=4096 <;> by_cases hc:Ah (Ae e)+1<=4096 <;> simp[h9,hg,hc]
 · simp[h9]
theorem Qx {e:Re} {a f:Int} {n:Nat} (h:Bf e=false):Cd e a f n=false:=by unfold Cd;rw[h];rfl
theorem Nf {e:Re} {a f:Int} {n:Nat} (h:a≠(Af 6 e:Int)):Cd e a f n=false:=by unfold Cd;rw[decide_eq_false h];simp
theorem Hm {e:Re} {a f:Int} {n:Nat} (h:¬(0<=f/\f<=7)):Cd e a f n=false:=by unfold Cd;rw[decide_eq_false h];simp
theorem Qw {e:Re} {a f:Int} {n:Nat} (h:¬n<=256):Cd e a f n=false:=by unfold Cd;rw[decide_eq_false h];simp
theorem validRx_not {e:Re} {a f:Int} {n:Nat} (h:¬(Bf e=true/\a=(Af 6 e:Int)/\0<=f/\f<=7/\n<=256)):Cd e a f n=false:=by
 by_cases h1:Bf e=true
 ·by_cases h2:a=(Af 6 e:Int)
  ·by_cases h3:0<=f/\f<=7
   · exact Qw (fun b=>h ⟨h1,h2,h3.1,h3.2,b⟩)
   · exact Hm h3
  · exact Nf h2
 · exact Qx (by simpa using h1)
theorem Pe {e:Re} (h:Bf e=true):bnd e=true:=by
 unfold Bf at h;simp only[Bool.and_eq_true]at h;exact Ve e 0 h.1.1.2
end ReMem
end Go.Proofs.YtjefcpjciogcjaaGreatDoor
