/- Lemmas for the walk of the law, in 2 parts. No condition beyond what each states. -/
import Derived.Test.YtjefcpjciogcjaaGreatDoorG26
import Derived.Test.YtjefcpjciogcjaaGreatDoorG25
import Derived.Test.YtjefcpjciogcjaaGreatDoorG4
namespace Go.Proofs.YtjefcpjciogcjaaGreatDoor
set_option maxRecDepth 100000
set_option linter.unusedVariables false
set_option maxHeartbeats 16000000
open Tryz
namespace ReMem
open Go Go.RowKit MatchMath
theorem repB_plus (k:Nat) (a:World) (e N:Nat) (hp:PTree k a e N) (x:Re) (s:Nat->Bool) (l h g:Int) (tv:Value) (m:Nat) (w:World) (b6:l=1) (S:size x<N) (u:gok k x=true) (hl:Lies a tv [x]) (hb:qw a w) (hi:BB w a.heap.size e m) (hm:m+3*size (Re.mk 5 s l h g [x])<=1048576):
  Calls Tryz.prog 124 #[.pointer (some ⟨e,0,none⟩),Ac tv (.mk 5 s l h g [x])] w fun r w'=>r=.returned (.tuple #[])/\BB w' a.heap.size e (m+Ah x+1)/\ID a.heap.size w w':=by
 subst b6;have R:m+3*size x+3<=1048576:=by simp only[size,sizes]at hm;omega
 have b4:=Cf k x u;have e3:Hid (m+Ah x<=1048576):=by show _<=_;omega
 obtain⟨K,V,vs,rfl,⟨b7,b5⟩,ho⟩:=hl.opened;have HO:=qh ho;have e8:(m:Int)<=1048576:=by omega
 have e5:Hid (m<=1048576):=by show _<=_;omega
 have e2:=qh hb.size;have C:=qh (qb w (.cells (WA 5 s 1 h g (.slice K 1 V)) 28));have a6:Hid (TB (w.alloc (.cells (WA 5 s 1 h g (.slice K 1 V)) 28)) w.heap.size (WL 5 s 1 h g (.slice K 1 V))):=TB.new w (WL 5 s 1 h g (.slice K 1 V));have G:=qh (hi.stays C.o);have D:Hid (ID a.heap.size w (w.alloc (.cells (WA 5 s 1 h g (.slice K 1 V)) 28))):=ID.of C.o hb.size;have B:=qh (hb.trans D.o.below);have A:=qh (fun i0 i5 i6 q0 q1 q2 q3 m W (h:BB W a.heap.size e m)=>Cy a.heap.size e m i0 i5 i6 q0 q1 q2 q3 W h);have b9:=qh (fun m W (h:BB W a.heap.size e m)=>Ci a.heap.size e m W h);obtain⟨ca,cc,b0,b1,a9,b2, -, -, -, -⟩:=G.o.open;unfold Ac;simp only[Re.op,Re.set,Re.lo,Re.hi,Re.group,List.length_singleton,List.length_nil];clear hl hi hb;obtain⟨d0,d1,d2,d3,d4,d5,d6,d7,d8⟩:=a6.o.nine;have e4:=qh R;obtain⟨t,tv,b,off,ht,hv,e1,⟨X,Y,x2,x3,x4,x5,x6,x7,x8⟩,z,P,b8⟩:=HO.o.at (j:=0) (by simp);obtain rfl:x=t:=by simpa using ht
 subst e1;have I:=qh (fun W n (d:qw a W) (hi:BB W a.heap.size e n) (hn:n+3*size x<=1048576)=>hp x tv n W S u P z d hi hn);obtain⟨e9,f0,rfl⟩:=z.shape;unfold Ac at I;simp only[Nat.zero_mul,Nat.add_zero]at X Y x2 x3 x4 x5 x6 x7 x8;have a7:=qh (fun W (d:qw a W)=>And.intro (upc d X) (And.intro (upc d Y) (And.intro (upc d x2) (And.intro (upc d x3) (And.intro (upc d x4) (And.intro (upc d x5) (And.intro (upc d x6) (And.intro (upc d x7) (upc d x8)))))))));clear X Y x2 x3 x4 x5 x6 x7 x8;obtain⟨u2,T⟩:∃y,m+Ah x=y:=⟨_,rfl⟩;have J:=qh T;have a5:Hid (m+3*size x<=1048576):=by show _<=_;omega
 obtain⟨N0,L⟩:∃y,min m 4096=y:=⟨_,rfl⟩;rw[L]at b0;have c9:(N0:Int)<=4096:=by omega
 clear z P b8 ht hv T hm R b4 hp S u ho b7 b5 L;obtain⟨X,Y,x2,x3,x4,x5,x6,x7,x8⟩:=a7.o _ B.o;rw[J.o];go_enter func124,ntmps124
 go_upto_region 5 with (first
  | (go_at_call 82
     (refine (I.o _ m B.o G.o a5.o).mono ?_);rintro b3 w2 ⟨rfl,h2,O⟩;rw[J.o]at h2;have a2:=qh h2;have a0:=qh (D.o.trans O);clear h2 O b0 b1 a9 b2 d0 d1 d2 d3 d4 d5 d6 d7 d8 X Y x2 x3 x4 x5 x6 x7 x8)
  | (go_at_call 83
     (refine (A.o 2 _ 0 0 0 0 0 u2 _ a2.o).mono ?_);rintro b3 w3 ⟨⟨U,rfl,Q⟩,M,p⟩;have E:=qh M;have a3:=qh Q;have a1:=qh (a0.o.trans p);clear M p Q))
 have i:U<min (u2+1) 4096:=by exact a3.o
 have a4:=qh i;obtain⟨g,c,y0,hx,hz⟩:=E.o.spot i;have a8:=qh y0;obtain⟨s6,c6⟩:=hx 6 (by omega);have z6:=hz 6 (by omega);obtain⟨N2,q⟩:∃y,min (u2+1) 4096=y:=⟨_,rfl⟩;have e6:=qh q;rw[q]at y0 i;have e7:(U:Int)< (N2:Int):=by omega
 have d9:(N2:Int)<=4096:=by omega
 have e0:(U:Int)<=4096:=by omega
 clear hx hz q i;go_wp2;try simp only[Exit.inBlock,Exit.then]
 refine bodyPost_ret (results_none rfl _ _ _) rfl ?_;have h6:=E.o.inst (g:=g) (c:=c) a8.o a4.o (U*7+6) (.int .i64 ((U:Int)+1));exact⟨rfl,h6.1,a1.o.trans h6.2⟩
theorem repB_neg (k:Nat) (a:World) (i N:Nat) (hp:PTree k a i N) (x:Re) (s:Nat->Bool) (l h g:Int) (tv:Value) (m:Nat) (w:World) (a1:l≠1) (hh:h<0) (a3:size x<N) (C:gok k x=true) (hl:Lies a tv [x]) (hb:qw a w) (hi:BB w a.heap.size i m) (hm:m+3*size (Re.mk 5 s l h g [x])<=1048576):
  Calls Tryz.prog 124 #[.pointer (some ⟨i,0,none⟩),Ac tv (.mk 5 s l h g [x])] w fun r w'=>r=.returned (.tuple #[])/\BB w' a.heap.size i (m+Ah x+2)/\ID a.heap.size w w':=by
 have f1:(l==1)=false:=beq_eq_false_iff_ne.2 a1;have a2:m+3*size x+3<=1048576:=by simp only[size,sizes]at hm;omega
 have c9:=Cf k x C;have e7:Hid (m+Ah x<=1048576):=by show _<=_;omega
 obtain⟨S,vc,vs,rfl,⟨e2,d9⟩,ho⟩:=hl.opened;have HO:=qh ho;have f3:(m:Int)<=1048576:=by omega
 have e9:Hid (m<=1048576):=by show _<=_;omega
 have a5:=qh hb.size;have G:=qh (qb w (.cells (WA 5 s l h g (.slice S 1 vc)) 28));have Q:Hid (TB (w.alloc (.cells (WA 5 s l h g (.slice S 1 vc)) 28)) w.heap.size (WL 5 s l h g (.slice S 1 vc))):=TB.new w (WL 5 s l h g (.slice S 1 vc));have L:=qh (hi.stays G.o);have I:Hid (ID a.heap.size w (w.alloc (.cells (WA 5 s l h g (.slice S 1 vc)) 28))):=ID.of G.o hb.size;have a6:=qh (hb.trans I.o.below);have E:=qh (fun i0 i5 i6 q0 q1 q2 q3 m W (h:BB W a.heap.size i m)=>Cy a.heap.size i m i0 i5 i6 q0 q1 q2 q3 W h);have P:=qh (fun m W (h:BB W a.heap.size i m)=>Ci a.heap.size i m W h);obtain⟨ca,cc,b0,b1,b8,b9, -, -, -, -⟩:=L.o.open;unfold Ac;simp only[Re.op,Re.set,Re.lo,Re.hi,Re.group,List.length_singleton,List.length_nil];clear hl hi hb;obtain⟨d0,d1,d2,d3,d4,d5,d6,d7,d8⟩:=Q.o.nine;have e8:=qh a2;obtain⟨t,tv,b,off,ht,hv,e1,⟨x0,x1,x2,x3,x4,x5,x6,x7,x8⟩,D,Y,e3⟩:=HO.o.at (j:=0) (by simp);obtain rfl:x=t:=by simpa using ht
 subst e1;have O:=qh (fun W n (e:qw a W) (hi:BB W a.heap.size i n) (hn:n+3*size x<=1048576)=>hp x tv n W a3 C Y D e hi hn);obtain⟨f4,f5,rfl⟩:=D.shape;unfold Ac at O;simp only[Nat.zero_mul,Nat.add_zero]at x0 x1 x2 x3 x4 x5 x6 x7 x8;have b6:=qh (fun W (e:qw a W)=>And.intro (upc e x0) (And.intro (upc e x1) (And.intro (upc e x2) (And.intro (upc e x3) (And.intro (upc e x4) (And.intro (upc e x5) (And.intro (upc e x6) (And.intro (upc e x7) (upc e x8)))))))));clear x0 x1 x2 x3 x4 x5 x6 x7 x8;obtain⟨u2,a4⟩:∃y,m+1+Ah x=y:=⟨_,rfl⟩;have z:=qh a4;have b4:Hid (m+1+3*size x<=1048576):=by show _<=_;omega
 clear D Y e3 ht hv a4 hm a2 c9 hp a3 C ho e2 d9 a1;rw[show m+Ah x+2=u2+1 by have:=z.o;omega];go_enter func124,ntmps124
 go_upto_region 7 with (first
  | (go_at_call 164
     (refine (P.o m _ L.o).mono ?_);rintro T w1 ⟨⟨kk,rfl,a0⟩,V,d⟩;have M:=qh a0;have a9:=qh V;have a7:=qh (I.o.trans d);have R:=qh (Q.o.id d);have q:=qh (a6.o.trans d.below);clear d0 d1 d2 d3 d4 d5 d6 d7 d8 b0 b1 b8 b9;obtain⟨d0,d1,d2,d3,d4,d5,d6,d7,d8⟩:=R.o.nine;obtain⟨x0,x1,x2,x3,x4,x5,x6,x7,x8⟩:=b6.o _ q.o;clear V d a0))
 have e6:(kk:Int)<=4096:=by have:=M.o;omega
 go_upto_region 8 with (first
  | (go_at_call 82
     (refine (O.o _ (m+1) q.o a9.o b4.o).mono ?_);rintro T w2 ⟨rfl,U,B⟩;rw[z.o]at U;have b2:=qh U;have a8:=qh (a7.o.trans B);have b5:=qh (R.o.id B);clear d0 d1 d2 d3 d4 d5 d6 d7 d8 x0 x1 x2 x3 x4 x5 x6 x7 x8;obtain⟨d0,d1,d2,d3,d4,d5,d6,d7,d8⟩:=b5.o.nine;clear U B))
 go_upto_region 10 with (first
  | (go_at_call 83
     (refine (E.o 3 _ 0 0 0 0 0 u2 _ b2.o).mono ?_);rintro T w3 ⟨⟨k3,rfl, -⟩,X,u⟩;have K:=qh X;have J:=qh (a8.o.trans u);clear X u))
 have p:kk<min (u2+1) 4096:=by have h1:=M.o;have U:=z.o;omega
 have b3:=qh p;obtain⟨g,c,y0,hx,hz⟩:=K.o.spot p;have b7:=qh y0;obtain⟨s6,c6⟩:=hx 6 (by omega);have z6:=hz 6 (by omega);obtain⟨N2,A⟩:∃y,min (u2+1) 4096=y:=⟨_,rfl⟩;have f0:=qh A;rw[A]at y0 p;have f2:(kk:Int)< (N2:Int):=by omega
 have e4:(N2:Int)<=4096:=by omega
 have e5:(kk:Int)<=4096:=by omega
 clear hx hz A p;clear d0 d1 d2 d3 d4 d5 d6 d7 d8
 go_still_tail 12,(by kernel_rfl)
 change wpList _ _ _ _ _ w3.drew;go_wp2;go_end0;have h6:=(K.o.stays (Below.refl _ w3).drew).inst (g:=g) (c:=c) b7.o b3.o (kk*7+6) (.int .i64 (N2:Int));have e0:ID a.heap.size w3 w3.drew:=ID.of (Below.refl _ w3).drew (by have h1:=a5.o;have U:=J.o.below.size;omega);exact⟨rfl,h6.1,J.o.trans (e0.trans h6.2)⟩
theorem repB_pos (k:Nat) (a:World) (i N:Nat) (hp:PTree k a i N) (x:Re) (s:Nat->Bool) (l h g:Int) (tv:Value) (m:Nat) (w:World) (V:l≠1) (hh:¬h<0) (Y:size x<N) (B:gok k x=true) (hl:Lies a tv [x]) (hb:qw a w) (hi:BB w a.heap.size i m) (hm:m+3*size (Re.mk 5 s l h g [x])<=1048576):
  Calls Tryz.prog 124 #[.pointer (some ⟨i,0,none⟩),Ac tv (.mk 5 s l h g [x])] w fun r w'=>r=.returned (.tuple #[])/\BB w' a.heap.size i (m+Ah x+1)/\ID a.heap.size w w':=by
 have e7:(l==1)=false:=beq_eq_false_iff_ne.2 V;have X:m+3*size x+3<=1048576:=by simp only[size,sizes]at hm;omega
 have b5:=Cf k x B;have e3:Hid (m+Ah x<=1048576):=by show _<=_;omega
 obtain⟨Q,vc,vs,rfl,⟨b8,b6⟩,ho⟩:=hl.opened;have HO:=qh ho;have e9:(m:Int)<=1048576:=by omega
 have e5:Hid (m<=1048576):=by show _<=_;omega
 have a1:=qh hb.size;have D:=qh (qb w (.cells (WA 5 s l h g (.slice Q 1 vc)) 28));have O:Hid (TB (w.alloc (.cells (WA 5 s l h g (.slice Q 1 vc)) 28)) w.heap.size (WL 5 s l h g (.slice Q 1 vc))):=TB.new w (WL 5 s l h g (.slice Q 1 vc));have J:=qh (hi.stays D.o);have E:Hid (ID a.heap.size w (w.alloc (.cells (WA 5 s l h g (.slice Q 1 vc)) 28))):=ID.of D.o hb.size;have a2:=qh (hb.trans E.o.below);have c9:=qh (fun i0 i5 i6 q0 q1 q2 q3 m W (h:BB W a.heap.size i m)=>Cy a.heap.size i m i0 i5 i6 q0 q1 q2 q3 W h);have M:=qh (fun m W (h:BB W a.heap.size i m)=>Ci a.heap.size i m W h);obtain⟨ca,cc,b0,b1,b2,b3, -, -, -, -⟩:=J.o.open;unfold Ac;simp only[Re.op,Re.set,Re.lo,Re.hi,Re.group,List.length_singleton,List.length_nil];clear hl hi hb;obtain⟨d0,d1,d2,d3,d4,d5,d6,d7,d8⟩:=O.o.nine;have e4:=qh X;obtain⟨t,tv,b,off,ht,hv,e1,⟨x0,x1,x2,x3,x4,x5,x6,x7,x8⟩,C,T,b9⟩:=HO.o.at (j:=0) (by simp);obtain rfl:x=t:=by simpa using ht
 subst e1;have L:=qh (fun W n (e:qw a W) (hi:BB W a.heap.size i n) (hn:n+3*size x<=1048576)=>hp x tv n W Y B T C e hi hn);obtain⟨f0,f1,rfl⟩:=C.shape;unfold Ac at L;simp only[Nat.zero_mul,Nat.add_zero]at x0 x1 x2 x3 x4 x5 x6 x7 x8;have a8:=qh (fun W (e:qw a W)=>And.intro (upc e x0) (And.intro (upc e x1) (And.intro (upc e x2) (And.intro (upc e x3) (And.intro (upc e x4) (And.intro (upc e x5) (And.intro (upc e x6) (And.intro (upc e x7) (upc e x8)))))))));clear x0 x1 x2 x3 x4 x5 x6 x7 x8;obtain⟨u2,a0⟩:∃y,m+1+Ah x=y:=⟨_,rfl⟩;have u:=qh a0;have a6:Hid (m+1+3*size x<=1048576):=by show _<=_;omega
 clear C T b9 ht hv a0 hm X b5 hp Y B ho b8 b6 V;rw[show m+Ah x+1=u2 by have:=u.o;omega];go_enter func124,ntmps124
 go_upto_region 7 with (first
  | (go_at_call 164
     (refine (M.o m _ J.o).mono ?_);rintro b4 w1 ⟨⟨kk,rfl,U⟩,S,d⟩;have K:=qh U;have a4:=qh S;have a3:=qh (E.o.trans d);have P:=qh (O.o.id d);have q:=qh (a2.o.trans d.below);clear d0 d1 d2 d3 d4 d5 d6 d7 d8 b0 b1 b2 b3;obtain⟨d0,d1,d2,d3,d4,d5,d6,d7,d8⟩:=P.o.nine;obtain⟨x0,x1,x2,x3,x4,x5,x6,x7,x8⟩:=a8.o _ q.o;clear S d U))
 have e2:(kk:Int)<=4096:=by have:=K.o;omega
 go_upto_region 8 with (first
  | (go_at_call 82
     (refine (L.o _ (m+1) q.o a4.o a6.o).mono ?_);rintro b4 w2 ⟨rfl,R,A⟩;rw[u.o]at R;have I:=qh R;have G:=qh (a3.o.trans A);have a7:=qh (P.o.id A);clear d0 d1 d2 d3 d4 d5 d6 d7 d8 x0 x1 x2 x3 x4 x5 x6 x7 x8;obtain⟨d0,d1,d2,d3,d4,d5,d6,d7,d8⟩:=a7.o.nine;clear R A))
 go_upto_region 10 with fail
 have p:kk<min u2 4096:=by have h1:=K.o;have R:=u.o;omega
 have a5:=qh p;obtain⟨g,c,y0,hx,hz⟩:=I.o.spot p;have a9:=qh y0;obtain⟨s6,c6⟩:=hx 6 (by omega);have z6:=hz 6 (by omega);obtain⟨N2,z⟩:∃y,min u2 4096=y:=⟨_,rfl⟩;have e6:=qh z;rw[z]at y0 p;have e8:(kk:Int)< (N2:Int):=by omega
 have d9:(N2:Int)<=4096:=by omega
 have e0:(kk:Int)<=4096:=by omega
 clear hx hz z p;clear d0 d1 d2 d3 d4 d5 d6 d7 d8
 go_still_tail 12,(by kernel_rfl)
 change wpList _ _ _ _ _ w2.drew;go_wp2;go_end0;have h6:=(I.o.stays (Below.refl _ w2).drew).inst (g:=g) (c:=c) a9.o a5.o (kk*7+6) (.int .i64 (N2:Int));have b7:ID a.heap.size w2 w2.drew:=ID.of (Below.refl _ w2).drew (by have h1:=a1.o;have R:=G.o.below.size;omega);exact⟨rfl,h6.1,G.o.trans (b7.trans h6.2)⟩
theorem treeB_over (c:World) (e:Nat) (t:Re) (l:Value) (m:Nat) (w:World) (j:Lies c l t.args) (i:qw c w) (hi:BB w c.heap.size e m) (g:4096<m):
  Calls Tryz.prog 82 #[.pointer (some ⟨e,0,none⟩),Ac l t] w fun r w'=>r=.returned (.tuple #[])/\BB w' c.heap.size e (m+Ah t)/\ID c.heap.size w w':=by
 obtain⟨x,y,rfl⟩:=j.shape;have a:=qh (qb w (.cells (xA t x y) 28));have b:=qh (hi.stays a.o);obtain⟨z,A,n,p,q,u, -, -, -, -⟩:=b.o.open;rw[decide_eq_true g]at p;have h:=qh g;have d:=qh i.size;clear j i hi g n;unfold Ac;go_enter func82,ntmps82;go_wp2;try simp only[Exit.inBlock,Exit.then]
 refine bodyPost_ret (results_none rfl _ _ _) rfl ?_;exact⟨rfl,b.o.over h.o (by have:=h.o;omega),ID.of a.o d.o⟩
theorem treeB_one {o:Int} (S:o=2\/o=7\/o=8) (k:Nat) (b:World) (d N:Nat) (T:PTree k b d N) (s:Nat->Bool) (l h g:Int) (C:Value) (m:Nat) (w:World) (t:¬4096<m) (E:Lies b C []) (y:qw b w) (hi:BB w b.heap.size d m) (Q:m+3*size (Re.mk o s l h g [])<=1048576):
  Calls Tryz.prog 82 #[.pointer (some ⟨d,0,none⟩),Ac C (.mk o s l h g [])] w fun r w'=>r=.returned (.tuple #[])/\BB w' b.heap.size d (m+1)/\ID b.heap.size w w':=by
 obtain⟨u,x,rfl⟩:∃a c,C=.slice a 0 c:=E.shape;have R:(m:Int)<=1048576:=by omega
 have J:Hid (m<=1048576):=by show _<=_;omega
 have G:=qh y.size;have j:=qh (qb w (.cells (WA o s l h g (.slice u 0 x)) 28));have B:Hid (TB (w.alloc (.cells (WA o s l h g (.slice u 0 x)) 28)) w.heap.size (WL o s l h g (.slice u 0 x))):=TB.new w (WL o s l h g (.slice u 0 x));have p:=qh (hi.stays j.o);have n:Hid (ID b.heap.size w (w.alloc (.cells (WA o s l h g (.slice u 0 x)) 28))):=ID.of j.o y.size;have I:=qh (y.trans n.o.below);have i:=qh (fun i0 i5 i6 q0 q1 q2 q3 m W (h:BB W b.heap.size d m)=>Cy b.heap.size d m i0 i5 i6 q0 q1 q2 q3 W h);have D:=qh (fun m W (h:BB W b.heap.size d m)=>Ci b.heap.size d m W h);obtain⟨U,V,K,L,M,O, -, -, -, -⟩:=p.o.open;unfold Ac;simp only[Re.op,Re.set,Re.lo,Re.hi,Re.group,List.length_singleton,List.length_nil];clear E hi y Q T;obtain⟨d0,d1,d2,d3,d4,d5,d6,d7,d8⟩:=B.o.nine;rw[decide_eq_false t]at L;clear K t;rcases S with rfl | rfl | rfl;all_goals
  go_enter func82,ntmps82;go_wp2_with (first
   | (go_at_call 83
      (refine (i.o _ _ _ _ _ _ _ m _ p.o).mono ?_);rintro P X ⟨⟨k3,rfl, -⟩,q,e⟩;have A:=qh q;have z:=qh (n.o.trans e);clear q e))
  go_end0;exact⟨rfl,A.o,z.o⟩
theorem treeB_5 (k:Nat) (b:World) (d N:Nat) (G:PTree k b d N) (x:Re) (s:Nat->Bool) (l h g:Int) (n:Value) (m:Nat) (w:World) (A:¬4096<m) (i:size x<N) (e:gok k x=true) (z:Lies b n [x]) (j:qw b w) (hi:BB w b.heap.size d m) (E:m+3*size (Re.mk 5 s l h g [x])<=1048576):
  Calls Tryz.prog 82 #[.pointer (some ⟨d,0,none⟩),Ac n (.mk 5 s l h g [x])] w fun r w'=>r=.returned (.tuple #[])/\BB w' b.heap.size d (m+Ah (.mk 5 s l h g [x]))/\ID b.heap.size w w':=by
 have HR:=qh (fun W (j:qw b W) (hi:BB W b.heap.size d m)=>(show Calls Tryz.prog 124 #[.pointer (some ⟨d,0,none⟩),Ac n (.mk 5 s l h g [x])] W fun r w'=>r=.returned (.tuple #[])/\BB w' b.heap.size d (m+Ah (.mk 5 s l h g [x]))/\ID b.heap.size W w' from by
  by_cases hl1:l=1
  ·rw[show Ah (.mk 5 s l h g [x])=Ah x+1 by simp[Ah,Ak,hl1],<-Nat.add_assoc]
   exact repB_plus k b d N G x s l h g n m W hl1 i e z j hi E
  ·by_cases hh:h<0
   ·  rw[show Ah (.mk 5 s l h g [x])=Ah x+2 by simp[Ah,Ak,hl1,hh],<-Nat.add_assoc]
      exact repB_neg k b d N G x s l h g n m W hl1 hh i e z j hi E
   ·  rw[show Ah (.mk 5 s l h g [x])=Ah x+1 by simp[Ah,Ak,hl1,hh],<-Nat.add_assoc]
      exact repB_pos k b d N G x s l h g n m W hl1 hh i e z j hi E))
 obtain⟨C,D,rfl⟩:∃a c,n=.slice a 1 c:=z.shape;unfold Ac at HR;simp only[Re.op,Re.set,Re.lo,Re.hi,Re.group]at HR;obtain⟨u2,B⟩:∃y,m+Ah (Re.mk 5 s l h g [x])=y:=⟨_,rfl⟩;rw[B]at HR ⊢;have Y:(m:Int)<=1048576:=by omega
 have R:Hid (m<=1048576):=by show _<=_;omega
 have Q:=qh j.size;have p:=qh (qb w (.cells (WA 5 s l h g (.slice C 1 D)) 28));have L:Hid (TB (w.alloc (.cells (WA 5 s l h g (.slice C 1 D)) 28)) w.heap.size (WL 5 s l h g (.slice C 1 D))):=TB.new w (WL 5 s l h g (.slice C 1 D));have t:=qh (hi.stays p.o);have q:Hid (ID b.heap.size w (w.alloc (.cells (WA 5 s l h g (.slice C 1 D)) 28))):=ID.of p.o j.size;have I:=qh (j.trans q.o.below);have M:=qh (fun i0 i5 i6 q0 q1 q2 q3 m W (h:BB W b.heap.size d m)=>Cy b.heap.size d m i0 i5 i6 q0 q1 q2 q3 W h);have O:=qh (fun m W (h:BB W b.heap.size d m)=>Ci b.heap.size d m W h);obtain⟨ca,cc,S,T,U,V, -, -, -, -⟩:=t.o.open;unfold Ac;simp only[Re.op,Re.set,Re.lo,Re.hi,Re.group,List.length_singleton,List.length_nil];clear z hi j E G i e B;obtain⟨d0,d1,d2,d3,d4,d5,d6,d7,d8⟩:=L.o.nine;rw[decide_eq_false A]at T;clear S A;go_enter func82,ntmps82;go_wp2_with (first
  | (go_at_call 124
     (refine (HR.o _ I.o t.o).mono ?_);rintro X w2 ⟨rfl,P,u⟩;have K:=qh P;have J:=qh (q.o.trans u);clear P u))
 go_end0;exact⟨rfl,K.o,J.o⟩
theorem treeB_4 (k:Nat) (a:World) (b N:Nat) (M:PTree k a b N) (args:List Re) (s:Nat->Bool) (l h g:Int) (I:Value) (m:Nat) (w:World) (p:¬4096<m) (A:2<=args.length) (q:∀t∈args,size t<N) (n:gokL k args=true) (G:Lies a I args) (c:qw a w) (hi:BB w a.heap.size b m) (L:m+3*size (Re.mk 4 s l h g args)<=1048576):
  Calls Tryz.prog 82 #[.pointer (some ⟨b,0,none⟩),Ac I (.mk 4 s l h g args)] w fun r w'=>r=.returned (.tuple #[])/\BB w' a.heap.size b (m+Ak args+2*(args.length-1))/\ID a.heap.size w w':=by
 have HR:=qh (fun W (c:qw a W) (hi:BB W a.heap.size b m)=>altB_any k a b N M args I m W A q n G c hi (by unfold size at L;omega));obtain⟨x,z,rfl⟩:=G.shape;obtain⟨u2,u⟩:∃y,m+Ak args+2*(args.length-1)=y:=⟨_,rfl⟩;rw[u]at HR ⊢;have V:(m:Int)<=1048576:=by omega
 have P:Hid (m<=1048576):=by show _<=_;omega
 have O:=qh c.size;have d:=qh (qb w (.cells (WA 4 s l h g (.slice x args.length z)) 28));have E:Hid (TB (w.alloc (.cells (WA 4 s l h g (.slice x args.length z)) 28)) w.heap.size (WL 4 s l h g (.slice x args.length z))):=TB.new w (WL 4 s l h g (.slice x args.length z));have i:=qh (hi.stays d.o);have e:Hid (ID a.heap.size w (w.alloc (.cells (WA 4 s l h g (.slice x args.length z)) 28))):=ID.of d.o c.size;have B:=qh (c.trans e.o.below);have J:=qh (fun i0 i5 i6 q0 q1 q2 q3 m W (h:BB W a.heap.size b m)=>Cy a.heap.size b m i0 i5 i6 q0 q1 q2 q3 W h);have K:=qh (fun m W (h:BB W a.heap.size b m)=>Ci a.heap.size b m W h);obtain⟨X,Y,Q,R,S,T, -, -, -, -⟩:=i.o.open;unfold Ac;simp only[Re.op,Re.set,Re.lo,Re.hi,Re.group,List.length_singleton,List.length_nil];clear G hi c L M q n u;obtain⟨d0,d1,d2,d3,d4,d5,d6,d7,d8⟩:=E.o.nine;rw[decide_eq_false p]at R;clear Q p;go_enter func82,ntmps82;go_wp2_with (first
  | (go_at_call 123
     (refine (HR.o _ B.o i.o).mono ?_);rintro U w2 ⟨rfl,A,j⟩;have D:=qh A;have C:=qh (e.o.trans j);clear A j))
 go_end0;exact⟨rfl,D.o,C.o⟩
theorem treeB_cat {o:Int} (ho:o=1\/o=3\/o=6\/o=9) (k:Nat) (a:World) (c N:Nat) (hp:PTree k a c N) (args:List Re) (s:Nat->Bool) (l h g:Int) (y:Value) (m:Nat) (w:World) (S:¬4096<m) (T:∀t∈args,size t<N) (j:gokL k args=true) (hl:Lies a y args) (K:qw a w) (hi:BB w a.heap.size c m) (hm:m+3*size (Re.mk o s l h g args)<=1048576):
  Calls Tryz.prog 82 #[.pointer (some ⟨c,0,none⟩),Ac y (.mk o s l h g args)] w fun r w'=>r=.returned (.tuple #[])/\BB w' a.heap.size c (m+Ak args)/\ID a.heap.size w w':=by
 have a0:=qh K;have R:m+3*sizes args<=1048576:=by unfold size at hm;omega
 have b3:=Bc args;have d9:(args.length:Int)<=1048576:=by omega
 have a4:=qh R;have a2:=qh j;have HP:=qh (fun t y n W (x:t∈args)=>hp t y n W (T t x) (Bk j x));obtain⟨X,Y,vs,rfl,⟨b2,a9⟩,ho⟩:=hl.opened;have HO:=qh ho;have e0:(m:Int)<=1048576:=by omega
 have b9:Hid (m<=1048576):=by show _<=_;omega
 have b7:=qh K.size;have A:=qh (qb w (.cells (WA o s l h g (.slice X args.length Y)) 28));have a6:Hid (TB (w.alloc (.cells (WA o s l h g (.slice X args.length Y)) 28)) w.heap.size (WL o s l h g (.slice X args.length Y))):=TB.new w (WL o s l h g (.slice X args.length Y));have G:=qh (hi.stays A.o);have B:Hid (ID a.heap.size w (w.alloc (.cells (WA o s l h g (.slice X args.length Y)) 28))):=ID.of A.o K.size;have b8:=qh (K.trans B.o.below);have b5:=qh (fun i0 i5 i6 q0 q1 q2 q3 m W (h:BB W a.heap.size c m)=>Cy a.heap.size c m i0 i5 i6 q0 q1 q2 q3 W h);have b6:=qh (fun m W (h:BB W a.heap.size c m)=>Ci a.heap.size c m W h);obtain⟨ca,cc,b0,b1,a7,a8, -, -, -, -⟩:=G.o.open;unfold Ac;simp only[Re.op,Re.set,Re.lo,Re.hi,Re.group,List.length_singleton,List.length_nil];clear hl hi K hm hp T j R b3 ho b2 a9;obtain⟨d0,d1,d2,d3,d4,d5,d6,d7,d8⟩:=a6.o.nine;rw[decide_eq_false S]at b1;clear b0 S;rcases ho with rfl | rfl | rfl | rfl;all_goals
  go_enter func82,ntmps82;go_wp2;clear d0 d1 d2 d3 d4 d5 d6 d7 d8 b1 a7 a8
  go_loopw [15] (fun ix wr=>∃(q u:Nat),q<=args.length/\ix=.int .i64 q/\Hid (u=m+Ak (args.take q))/\BB wr a.heap.size c u/\ID a.heap.size w wr) (fun ix _=>args.length-(intOf ix).toNat)
  case atStart=>exact⟨0,m,Nat.zero_le _,rfl,(by show _=_;simp[Ak]),G.o,B.o⟩
  case round=>
   obtain⟨q,u,hq,rfl,HU,O,p⟩:=hrel;have E:=qh O;have D:=qh p;have i:Hid (qw a wr):=a0.o.trans p.below;clear O p;by_cases hqt:q<args.length
   ·have b4:(q:Int)< (args.length:Int):=by omega
    have HQ:=qh hqt;obtain⟨t,y,b,off,x,hv,e1,⟨x0,x1,x2,x3,x4,x5,x6,x7,x8⟩,P,M,Q⟩:=(HO.o.stays i.o).at hqt;subst e1;have d:=HO.o.sub q t y x hv;have I:=qh (fun W n (hw:qw a W) (hi:BB W a.heap.size c n) (hn:n+3*size t<=1048576)=>HP.o t y n W Q M d hw hi hn);obtain⟨U,V,rfl⟩:=P.shape;unfold Ac at I;have a5:=qh (Ck x);have J:Hid (u+3*size t<=1048576):=by
     show _<=_;have h1:=HU.out;have h3:=Bv k args a2.o q t x;have h4:=a4.o;omega
    have z:=qh (qb wr (.cells (xA t U V) 28));have C:Hid (ID a.heap.size wr (wr.alloc (.cells (xA t U V) 28))):=ID.of z.o i.o.size;clear P M Q x hv d hqt hq;go_wp2_with (first
     | (go_at_call 82
        (refine (I.o _ u (i.o.trans C.o.below) (E.o.stays z.o) J.o).mono ?_);rintro c9 w2 ⟨rfl,h2,L⟩;have a3:=qh h2;have a1:=qh ((D.o.trans C.o).trans L);clear h2 L))
    go_roundw
    case rel=>exact⟨q+1,u+Ah t,HQ.o,by go_num,(by show _=_;have h1:=HU.out;have h2:=a5.o;omega),a3.o,a1.o⟩
    case measure=>have:=HQ.o;simp[intOf];omega
   ·have b4:¬(q:Int)< (args.length:Int):=by omega
    have e:m+Ak args=u:=by have h1:=HU.out;rw[List.take_of_length_le (by omega)]at h1;exact h1.symm
    have HE:=qh e;clear hq hqt e;go_wp2;go_end0;exact⟨rfl,by rw[HE.o];exact E.o,D.o⟩
theorem Sa (k:Nat) (c:World) (b:Nat):∀N,PTree k c b N
 | 0=>fun t tv m w hs=>absurd hs (by omega)
 |N+1=>fun t tv m w hs hg hf hl hb hi hm=>by
  by_cases hov:4096<m
  · exact treeB_over c b t tv m w hl hb hi hov
  have hp:=Sa k c b N;obtain⟨o,s,l,h,g,args⟩:=t;obtain⟨j,p,q,d⟩:=He hg;have a:∀t∈args,size t<N:=fun t i=>by have j:=Hl i;unfold size at hs;omega
  have e:∀t∈args,gok k t=true:=fun t i=>Bk d i;rcases Ek j with ⟨rfl | rfl | rfl,rfl, -⟩ | ⟨rfl,rfl, -⟩ | ⟨rfl | rfl,n, -⟩ | ⟨rfl,⟨x,rfl⟩, -⟩ | ⟨rfl,⟨x,rfl⟩, -⟩ | ⟨rfl,rfl, -⟩
  ·rw[show Ah (.mk 1 s l h g [])=Ak [] by simp[Ah]]
   exact treeB_cat (by decide) k c b N hp [] s l h g tv m w hov a d hl hb hi hm
  ·rw[show Ah (.mk 7 s l h g [])=1 by simp[Ah]]
   exact treeB_one (by decide) k c b N hp s l h g tv m w hov hl hb hi hm
  ·rw[show Ah (.mk 8 s l h g [])=1 by simp[Ah]]
   exact treeB_one (by decide) k c b N hp s l h g tv m w hov hl hb hi hm
  ·rw[show Ah (.mk 2 s l h g [])=1 by simp[Ah]]
   exact treeB_one (by decide) k c b N hp s l h g tv m w hov hl hb hi hm
  ·rw[show Ah (.mk 3 s l h g args)=Ak args by simp[Ah]]
   exact treeB_cat (by decide) k c b N hp args s l h g tv m w hov a d hl hb hi hm
  ·rw[show Ah (.mk 4 s l h g args)=Ak args+2*(args.length-1) by simp[Ah],<-Nat.add_assoc]
   exact treeB_4 k c b N hp args s l h g tv m w hov n a d hl hb hi hm
  · exact treeB_5 k c b N hp x s l h g tv m w hov (a x (by simp)) (e x (by simp)) hl hb hi hm
  ·rw[show Ah (.mk 6 s l h g [x])=Ak [x] by simp[Ah]]
   exact treeB_cat (by decide) k c b N hp [x] s l h g tv m w hov a d hl hb hi hm
  ·rw[show Ah (.mk 9 s l h g [])=Ak [] by simp[Ah]]
   exact treeB_cat (by decide) k c b N hp [] s l h g tv m w hov a d hl hb hi hm
end ReMem
namespace ReMem
open Go Go.RowKit MatchMath
theorem compP_big (e:Re) (v:Value) (ln:Bool) (w:World) (M:size e<=100) (i:Bf e=true) (K:bnd e=true) (C:Af 9 e=0) (L:4096<grown e) (D:Ag e) (z:Lies w v e.args):
  Calls Tryz.prog 60 #[Ac v e,.bool ln] w (CRes w 3):=by
 have y:=(Ar e).2 i;have g:=qh (fun W (hw:qw w W)=>Ct e v W (by omega) D (z.stays hw));rw[y]at g;have d:=qh (fun W (hw:qw w W)=>Kf e v W (by omega) D (z.stays hw));rw[show decide (0<Af 9 e)=false by rw[C];rfl]at d;have h:=qh (fun W (hw:qw w W)=>ExpTopP_big e v W M i K L D (z.stays hw));obtain⟨j,l,rfl⟩:=z.shape;have m:=qh ((qb w (.cells (xA e j l) 28)).alloc (by simp) (.cells #[.slice none 0 0,.bool false] 96));have I:Hid (PB2 ((w.alloc (.cells (xA e j l) 28)).alloc (.cells #[.slice none 0 0,.bool false] 96)) (w.heap.size+1) (.slice none 0 0) (.bool false)):=by
  have:=heap_alloc_new (w.alloc (.cells (xA e j l) 28)) (.cells #[.slice none 0 0,.bool false] 96);rw[show (w.alloc (.cells (xA e j l) 28)).heap.size=w.heap.size+1 from by simp]at this;exact this
 have G:Hid (TB ((w.alloc (.cells (xA e j l) 28)).alloc (.cells #[.slice none 0 0,.bool false] 96)) w.heap.size (xL e j l)):=(TB.new w (xL e j l)).stays ((Below.refl _ _).alloc ql _);unfold Ac at g d h ⊢;try simp only[Re.op,Re.set,Re.lo,Re.hi,Re.group,Re.args]at h
 clear z D K M i y L C;go_enter func60,ntmps60;go_wp2_with (first
  | (go_at_call 56
     (refine (g.o _ m.o).mono ?_);rintro x w1 ⟨rfl,a⟩;have n:=qh (Ab m.o a);have t:=qh (I.o.stays a);have c:=qh (G.o.stays a);obtain⟨N,O,P,Q,R,S,T,U,V⟩:=c.o.nine;clear a)
  | (go_at_call 58
     (refine (d.o _ n.o).mono ?_);rintro x w2 ⟨rfl,a⟩;have q:=qh (Ab n.o a);have u:=qh (t.o.stays a);have r:=qh (c.o.stays a);clear N O P Q R S T U V;obtain⟨N,O,P,Q,R,S,T,U,V⟩:=r.o.nine;clear a)
  | (go_at_call 81
     (refine (h.o _ q.o).mono ?_);rintro x J ⟨rfl,a⟩;have E:=qh (Ab q.o a);have b:=qh (u.o.stays a);obtain⟨d0,d1,z0,z1,A⟩:=b.o.facts;have X:=qh A;obtain⟨Y,a0,a1,a2,B⟩:=(b.o.stays (qb J (.cells (ZA0) 28))).facts;clear d0 d1 z0 z1 B;clear a A))
 have en:=((b.o.stays (qb J (.cells (ZA0) 28))).set (.slice none 0 0) (.bool false)).facts;obtain⟨n0,n1, -, -, -⟩:=en;try simp only[Exit.inBlock,Exit.then]
 refine bodyPost_ret (v:=.tuple #[.agg #[.slice none 0 0,.bool false],.int .i64 3]) (by simp[results,results60,go_sem,n0,n1]) rfl ?_;refine⟨⟨_,_,_,_,rfl⟩,?_⟩;exact ((Ab E.o (qb J (.cells (ZA0) 28))).setCell (p:=⟨_,0,none⟩) (by show w.heap.size<=w.heap.size+1;omega) _).setCell (p:=⟨_,1,none⟩) (by show w.heap.size<=w.heap.size+1;omega) _
theorem compP_small (e:Re) (v:Value) (ln:Bool) (w:World) (hs:size e<=100) (B:Bf e=true) (hb:bnd e=true) (b3:Af 9 e=0) (hg:grown e<=4096) (ec:Int) (hc:4096<Ah (Ae e)+1/\ec=3\/Ah (Ae e)+1<=4096/\ec=0) (U:Ag e) (P:Lies w v e.args):
  Calls Tryz.prog 60 #[Ac v e,.bool ln] w (CRes w ec):=by
 have a9:=(Ar e).2 B;have K:=qh (fun W (hw:qw w W)=>Ct e v W (by omega) U (P.stays hw));rw[a9]at K;have J:=qh (fun W (hw:qw w W)=>Kf e v W (by omega) U (P.stays hw));rw[show decide (0<Af 9 e)=false by rw[b3];rfl]at J;have x:=qh (fun W (hw:qw w W)=>Nw e v W hs B hb hg U (P.stays hw));have O:=Jx e B;have e1:=Gh _ e O;have C:=Iq _ e O;have Q:=Cf _ _ C;have b4:size (Ae e)<=4096:=by omega
 obtain⟨⟨q,r,n,m,l,g⟩,b5⟩:∃tr,Ae e=tr:=⟨_,rfl⟩;rw[b5]at x C Q b4 hc;obtain⟨L,hL⟩:∃L,Ah (Re.mk q r n m l g)=L:=⟨_,rfl⟩;have u:=qh (fun W v W2 bb (U:Ag (Re.mk q r n m l g)) (P:Lies W v g) (hb2:qw W W2) (hbb:BB W2 W.heap.size bb 0)=>Sa _ W bb 4097 (Re.mk q r n m l g) v 0 W2 (by omega) C U P hb2 hbb (by omega));rw[hL]at u hc Q;have e3:(L:Int)<=20000:=by omega
 have M:4096< (L:Int)+1/\ec=3\/(L:Int)+1<=4096/\ec=0:=by omega
 have e2:Hid (L<=20000):=by show _<=_;omega
 obtain⟨R,S,rfl⟩:=P.shape;have V:=qh ((qb w (.cells (xA e R S) 28)).alloc (by simp) (.cells #[.slice none 0 0,.bool false] 96));have e0:Hid (PB2 ((w.alloc (.cells (xA e R S) 28)).alloc (.cells #[.slice none 0 0,.bool false] 96)) (w.heap.size+1) (.slice none 0 0) (.bool false)):=by
  have:=heap_alloc_new (w.alloc (.cells (xA e R S) 28)) (.cells #[.slice none 0 0,.bool false] 96);rw[show (w.alloc (.cells (xA e R S) 28)).heap.size=w.heap.size+1 from by simp]at this;exact this
 have d9:Hid (TB ((w.alloc (.cells (xA e R S) 28)).alloc (.cells #[.slice none 0 0,.bool false] 96)) w.heap.size (xL e R S)):=(TB.new w (xL e R S)).stays ((Below.refl _ _).alloc ql _);unfold Ac at K J x u ⊢;try simp only[Re.op,Re.set,Re.lo,Re.hi,Re.group,Re.args]at u x
 clear P U hb hs B a9 hg b3 O e1 C Q b4 b5 hL hc;rcases M with ⟨M,rfl⟩ | ⟨M,rfl⟩;all_goals
  go_enter func60,ntmps60;go_wp2_with (first
   | (go_at_call 56
      (refine (K.o _ V.o).mono ?_);rintro A w1 ⟨rfl,b⟩;have X:=qh (Ab V.o b);have a4:=qh (e0.o.stays b);have E:=qh (d9.o.stays b);obtain⟨x0,x1,x2,x3,x4,x5,x6,x7,x8⟩:=E.o.nine;clear b)
   | (go_at_call 58
      (refine (J.o _ X.o).mono ?_);rintro A w2 ⟨rfl,b⟩;have Y:=qh (Ab X.o b);have a5:=qh (a4.o.stays b);have a2:=qh (E.o.stays b);clear x0 x1 x2 x3 x4 x5 x6 x7 x8;obtain⟨x0,x1,x2,x3,x4,x5,x6,x7,x8⟩:=a2.o.nine;clear b)
   | (go_at_call 81
      (refine (x.o _ Y.o).mono ?_);rintro A h ⟨⟨v3,rfl,h3,b2⟩,b⟩;obtain⟨z,c3,rfl⟩:∃a c,v3=.slice a g.length c:=h3.lies.shape;simp only[Re.op,Re.set,Re.lo,Re.hi,Re.group];have b8:=qh b2;have c9:=qh h3.lies;have d:=qh (qb h (.cells (WA q r n m l (.slice z g.length c3)) 28));have i:=qh ((Below.refl (h.alloc (.cells (WA q r n m l (.slice z g.length c3)) 28)).heap.size (h.alloc (.cells (WA q r n m l (.slice z g.length c3)) 28))).alloc ql (.cells #[.slice none 0 0,.bool false] 142));have a0:Hid (BB ((h.alloc (.cells (WA q r n m l (.slice z g.length c3)) 28)).alloc (.cells #[.slice none 0 0,.bool false] 142)) (h.alloc (.cells (WA q r n m l (.slice z g.length c3)) 28)).heap.size (h.heap.size+1) 0):=by
       have h1:=heap_alloc_new (h.alloc (.cells (WA q r n m l (.slice z g.length c3)) 28)) (.cells #[.slice none 0 0,.bool false] 142);have T:(h.alloc (.cells (WA q r n m l (.slice z g.length c3)) 28)).heap.size=h.heap.size+1:=by simp
       refine⟨.slice none 0 0,?_,IRow.nil _ _,by rw[T];exact ql⟩;rw[<- T,h1];rfl
      clear h3 b2;have I:=qh (Ab Y.o b);have G:=qh (a5.o.stays b);obtain⟨d0,d1,z0,z1,D⟩:=G.o.facts;have a1:=qh D;clear b D)
   | (go_at_call 82
      (refine (u.o (h.alloc (.cells (WA q r n m l (.slice z g.length c3)) 28)) (.slice z g.length c3) _ (h.heap.size+1) b8.o (c9.o.stays d.o) i.o a0.o).mono ?_);rintro A w4 ⟨rfl,h4,N⟩;rw[Nat.zero_add]at h4;have b9:=qh h4;have b6:=qh ((Ab I.o d.o).trans ((i.o.trans N.below).mono (by have h1:=I.o.size;have T:=d.o.size;omega)));have a6:=qh (((G.o.stays d.o).stays i.o).low N.below (by have h1:=a1.o;have T:=d.o.size;omega));clear d0 d1 z0 z1 h4 N)
   | (go_at_call 83
      (refine (Cy _ (h.heap.size+1) L 6 0 0 0 0 0 0 _ b9.o).mono ?_);rintro A w5 ⟨⟨kk,rfl, -⟩,a8,t⟩;have b7:=qh (b6.o.trans (t.below.mono (by have h1:=I.o.size;have T:=d.o.size;omega)));have j:=qh (a6.o.low t.below (by have h1:=a1.o;have T:=d.o.size;omega));obtain⟨ca,cc,b0,b1, -, -, -, -, -, -⟩:=a8.open;first | rw[decide_eq_true (show 4096<L+1 by omega)]at b1 | rw[decide_eq_false (show ¬4096<L+1 by omega)]at b1
      obtain⟨N2,a7⟩:∃y,min (L+1) 4096=y:=⟨_,rfl⟩;rw[a7]at b0;obtain⟨d0,d1,z0,z1,D⟩:=j.o.facts;clear a8 t D a7))
  first
  | (have en:=((j.o).set (.slice none 0 0) (.bool false)).facts
     obtain⟨n0,n1, -, -, -⟩:=en;try simp only[Exit.inBlock,Exit.then]
     refine bodyPost_ret (v:=.tuple #[.agg #[.slice none 0 0,.bool false],.int .i64 3]) ?_ rfl ?_
     focus (simp [results,results60,go_sem,n0,n1];done))
  | (have en:=((j.o).set (.slice ca N2 cc) (.bool ln)).facts
     obtain⟨n0,n1, -, -, -⟩:=en;try simp only[Exit.inBlock,Exit.then]
     refine bodyPost_ret (v:=.tuple #[.agg #[.slice ca N2 cc,.bool ln],.int .i64 0]) ?_ rfl ?_
     focus (simp [results,results60,go_sem,n0,n1];done))
  refine⟨⟨_,_,_,_,rfl⟩,?_⟩;exact ((b7.o).setCell (p:=⟨_,0,none⟩) (by show w.heap.size<=w.heap.size+1;omega) _).setCell (p:=⟨_,1,none⟩) (by show w.heap.size<=w.heap.size+1;omega) _
theorem Zg (e:Re) (v:Value) (c:Bool) (w:World) (j:size e<=100) (a:Bf e=true) (d:bnd e=true) (b:Af 9 e=0) (g:Ag e) (i:Lies w v e.args):
  Calls Tryz.prog 60 #[Ac v e,.bool c] w (CRes w (Fo e)):=by
 unfold Fo;by_cases hg:grown e<=4096
 ·by_cases hc:Ah (Ae e)+1<=4096
  ·rw[if_pos ⟨hg,hc⟩]
   exact compP_small e v c w j a d b hg 0 (.inr ⟨hc,rfl⟩) g i
  ·rw[if_neg (fun h=>hc h.2)]
   exact compP_small e v c w j a d b hg 3 (.inl ⟨by omega,rfl⟩) g i
 ·rw[if_neg (fun h=>hg h.1)]
  exact compP_big e v c w j a d b (by omega) g i
end ReMem
end Go.Proofs.YtjefcpjciogcjaaGreatDoor
