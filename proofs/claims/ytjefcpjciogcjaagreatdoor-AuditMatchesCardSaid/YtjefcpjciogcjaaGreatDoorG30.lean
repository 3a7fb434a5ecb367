/- Lemmas for the walk of the law, in 3 parts. No condition beyond what each states. -/
import Derived.Test.YtjefcpjciogcjaaGreatDoorG7
import Derived.Test.YtjefcpjciogcjaaGreatDoorG29
import Derived.Test.YtjefcpjciogcjaaGreatDoorG28
import Derived.Test.YtjefcpjciogcjaaGreatDoorG2
namespace Go.Proofs.YtjefcpjciogcjaaGreatDoor
set_option maxRecDepth 100000
set_option linter.unusedVariables false
set_option maxHeartbeats 16000000
open Tryz
namespace ReMem
open Go Go.RowKit MatchMath Strs
def Mz (p:ByteArray) (f gr:Int) (e:Re) (s:ByteArray) (l:List (List Span)):List (Int×Int):=if Cd e gr f p.size=true then Hi (tx s (decide (4<=f))) e l else [(1,0)]
theorem Qy {e:Re} {a f:Int} {n:Nat} (h:Cd e a f n=true):Bf e=true/\0<=f/\f<=7:=by
 unfold Cd at h;simp only[Bool.and_eq_true,decide_eq_true_eq]at h;exact⟨h.1.1.1.1,h.1.1.2⟩
def Sp1 (w:World) (g:Nat) (x y:Int):Prop:=w.heap[g]? =some (.cells #[.int .i64 x,.int .i64 y] 53)
theorem Sp1.facts {w:World} {g:Nat} {x y:Int} (h:Sp1 w g x y):w.cell? ⟨g,0,none⟩=some (.int .i64 x)/\w.cell? ⟨g,1,none⟩=some (.int .i64 y):=⟨by rw[qc h];rfl,by rw[qc h];rfl⟩
theorem Sp1.stays {w a:World} {g:Nat} {x y:Int} (h:Sp1 w g x y) (b:qw w a):Sp1 a g x y:=(b.block _ (qd h)).trans h
theorem rx_end {T:Text} {e:Re} {l:List (List Span)} {n i k:Nat} {last:Int} {out:List (Int×Int)} (a:0<n) (hi:T.s.length<i):Bu T e l n i last k out=if k<l.length then out++ [(4,(k:Int))] else out:=by
 obtain⟨m,rfl⟩:∃m,n=m+1:=⟨n-1,by omega⟩;rw[Bu,if_pos hi]
theorem rx_none {T:Text} {e:Re} {l:List (List Span)} {n i k:Nat} {last:Int} {out:List (Int×Int)} (b:0<n) (hi:¬T.s.length<i) (a:leftmost T e i=none):Bu T e l n i last k out=out++ [(5,(k:Int))]:=by
 obtain⟨m,rfl⟩:∃m,n=m+1:=⟨n-1,by omega⟩;rw[Bu,if_neg hi,a]
theorem rx_no {T:Text} {e:Re} {l:List (List Span)} {n i k:Nat} {last:Int} {out:List (Int×Int)} (b:0<n) (hi:¬T.s.length<i) (a:leftmost T e i=some none):Bu T e l n i last k out=if k<l.length then out++ [(4,(k:Int))] else out:=by
 obtain⟨m,rfl⟩:∃m,n=m+1:=⟨n-1,by omega⟩;rw[Bu,if_neg hi,a]
theorem rx_skip {T:Text} {e:Re} {l:List (List Span)} {n i k a:Nat} {q:Parse} {last:Int} {out:List (Int×Int)} (hi:¬T.s.length<i) (b:leftmost T e i=some (some (a,q))) (h:a=q.1/\(a:Int)=last):Bu T e l (n+1) i last k out=Bu T e l n (a+1) last k out:=by
 rw[Bu,if_neg hi,b];simp only;rw[if_pos h]
theorem Ur {T:Text} {e:Re} {l:List (List Span)} {n i k a:Nat} {q:Parse} {last:Int} {out:List (Int×Int)} (hi:¬T.s.length<i) (c:leftmost T e i=some (some (a,q))) (h:¬(a=q.1/\(a:Int)=last)) (b:l.length<=k):Bu T e l (n+1) i last k out=out++ [(3,(k:Int))]:=by
 rw[Bu,if_neg hi,c];simp only;rw[if_neg h,List.getElem?_eq_none b]
theorem Js {T:Text} {e:Re} {l:List (List Span)} {n i k a:Nat} {q:Parse} {last:Int} {out:List (Int×Int)} {m:List Span} (hi:¬T.s.length<i) (c:leftmost T e i=some (some (a,q))) (h:¬(a=q.1/\(a:Int)=last)) (b:l[k]? =some m):
  Bu T e l (n+1) i last k out=Bu T e l n (if a=q.1 then q.1+1 else q.1) (q.1:Int) (k+1) (if m=Am a q then out else out++ [(2,(k:Int))]):=by
 rw[Bu,if_neg hi,c];simp only;rw[if_neg h,b]
theorem regexR_bad (p:ByteArray) (f b:Int) (e:Re) (v q:Value) (s:ByteArray) (l:List (List Span)) (w:World) (A:size e<=12) (h:Ag e) (j:Lies w v e.args) (n:MLies w q l) (m:Cd e b f p.size=false):
  Calls Tryz.prog 9 #[Bn p f b v e,.string s,q] w fun r w'=>(∃v',r=.returned v'/\KSame.Reps w' v' (Mz p f b e s l))/\qw w w':=by
 have a:=qh (fun W (hw:qw w W)=>Xp p f b e v W (by omega) h (j.stays hw));rw[m]at a;rw[show Mz p f b e s l= [(1,0)] from if_neg (by rw[m];decide)];obtain⟨t,u,rfl⟩:=j.shape;obtain⟨D,E,rfl⟩:=n.shape;have c:=qh (qb w (.cells (XA p f b e t u) 30));have i:=qh (RX.new w p f b (.slice t e.args.length u) e);obtain⟨c0,c1,c2,c3,c4,c5,c6,c7,c8,C,x,y⟩:=i.o.facts;unfold Bn at a ⊢;clear j n h A m;go_enter func9,ntmps9;go_wp2_with (first
  | (go_at_call 19
     (refine (a.o _ c.o).mono ?_);rintro z B ⟨rfl,g⟩;have d:=qh (Ab c.o g);clear g))
 go_ret;exact⟨⟨_,rfl,reps_one B 1 0⟩,d.o.alloc d.o.size _⟩
theorem regexR_good (p:ByteArray) (f gr:Int) (e:Re) (v lv:Value) (s:ByteArray) (l:List (List Span)) (w:World) (hs:size e<=12) (g1:Ag e) (hl:Lies w v e.args) (hm:MLies w lv l) (n4:s.size<=10) (j1:l.length<=20) (hv:Cd e gr f p.size=true):
  Calls Tryz.prog 9 #[Bn p f gr v e,.string s,lv] w fun r w'=>(∃v',r=.returned v'/\KSame.Reps w' v' (Mz p f gr e s l))/\qw w w':=by
 have b5:=qh (fun W (hw:qw w W)=>Xp p f gr e v W (by omega) g1 (hl.stays hw));rw[hv]at b5;rw[show Mz p f gr e s l=Hi (tx s (decide (4<=f))) e l from if_pos hv];obtain⟨e8,m8,m9⟩:=Qy hv;have i8:=Jx e e8;have i9:Af 6 e<=4096:=by
  have u:=e8;unfold Bf at u;simp only[Bool.and_eq_true,decide_eq_true_eq]at u;omega
 obtain⟨ln,g2⟩:∃z,decide (4<=f)=z:=⟨_,rfl⟩;rw[g2];have o4:((wrap64 (f.tdiv 4)).tmod 2==1)=ln:=by
  rw[<- g2];rcases (by omega:f=0\/f=1\/f=2\/f=3\/f=4\/f=5\/f=6\/f=7) with rfl | rfl | rfl | rfl | rfl | rfl | rfl | rfl <;> decide +kernel
 have f5:=qh (fun W i (hi:i<=s.size) (hw:qw w W)=>refLeft_any s ln e v i W (hl.stays hw) g1 ((Ar e).2 e8) (by omega) i9 i8 hi (by omega));obtain⟨T,hT⟩:∃T,tx s ln=T:=⟨_,rfl⟩;have b4:Hid (T.s.length=s.size):=by show _=_;rw[<- hT];exact Ce s
 rw[hT]at f5 ⊢;obtain⟨R,Y⟩:∃R,Hi T e l=R:=⟨_,rfl⟩;rw[Y];have m2:Hid (Bu T e l (s.size+2) 0 (-1) 0 []=R):=by show _=_;rw[<- Y];unfold Hi;rw[b4.o]
 have o7:(s.size:Int)<=10:=by omega
 have o1:(l.length:Int)<=20:=by omega
 have U:=qh j1;have m1:=qh hm;obtain⟨va,vc,rfl⟩:=hl.shape;obtain⟨la,lc,rfl⟩:=hm.shape;have g8:=qh (qb w (.cells (XA p f gr e va vc) 30));have i1:=qh (RX.new w p f gr (.slice va e.args.length vc) e);obtain⟨c0,c1,c2,c3,c4,c5,c6,c7,c8,c9,e5,e6⟩:=i1.o.facts;unfold Bn at b5 ⊢;unfold Ac at f5;clear hl hm g1 hs hv e8 i8 i9 g2 hT Y n4 j1 m8 m9;go_enter func9,ntmps9;go_wp2_with (first
  | (go_at_call 19
     (refine (b5.o _ g8.o).mono ?_);rintro b6 w1 ⟨rfl,f9⟩;have g9:=qh (Ab g8.o f9);have i2:=qh (i1.o.stays f9);clear f9 c0 c1 c2 c3 c4 c5 c6 c7 c8 c9 e5 e6))
 have t:=qh g9.o.size;have f8:Hid (w.heap.size<w1.heap.size):=(qd i2.o)
 go_loopw [7,8,9,10] (fun ov kv ev av wr=>∃(n i k:Nat) (last:Int) (out:List (Int×Int)) (ov':Value),i<=s.size+1/\s.size+2<=n+i/\ov'=ov/\kv=.int .i64 k/\ev=.int .i64 last/\av=.int .i64 i/\(-1<=last/\last<=10)/\k<=l.length/\out.length<=k/\Hid (Bu T e l n i last k out=R)/\RR wr w1.heap.size ov' out/\RX wr w.heap.size p f gr (.slice va e.args.length vc) e/\qw w wr/\w1.heap.size<=wr.heap.size) (fun _ _ _ av _=>s.size+2-(intOf av).toNat)
 case atStart=>exact⟨s.size+2,0,0, -1,[],_,by omega,by omega,rfl,rfl,rfl,rfl,⟨by omega,by omega⟩,Nat.zero_le _,Nat.zero_le _,m2.o,RR.nil _ _,i2.o,g9.o,ql⟩
 case round=>
  obtain⟨n,i,k,last,out,ov,hi,j3,rfl,rfl,rfl,rfl,a1,hk,j4,S,b8,j5,hb,j7⟩:=hrel;have D:=qh b8;have HX:=qh j5;have HB:=qh hb;have e4:=qh j7;have HK:=qh hk;have O:=qh j4;have e2:=qh j3;have k0:=qh hi;have n9:(k:Int)<=20:=by have:=U.o;omega
  have o2: -1<=last:=a1.1;have o3:last<=10:=a1.2;obtain⟨oa,oc,rfl⟩:=b8.form;have n3:(out.length:Int)<=20:=by have:=U.o;omega
  clear b8 j5 hb j7 a1 j4 j3;have e0:Hid (0<n):=by show _<_;have u:=e2.o;have K:=k0.o;omega
  have b1:Hid (k<l.length->(Bu T e l n i last k out=if k<l.length then out++ [(4,(k:Int))] else out)->R=out++ [(4,(k:Int))]):=fun u K=>by rw[<- S.out,K,if_pos u]
  have b2:Hid (¬k<l.length->(Bu T e l n i last k out=if k<l.length then out++ [(4,(k:Int))] else out)->R=out):=fun u K=>by rw[<- S.out,K,if_neg u]
  obtain⟨NL,i5⟩:∃NL,l.length=NL:=⟨_,rfl⟩;have o8:=qh i5;clear i5;by_cases hle:i<=s.size
  ·have j0:(i:Int)<=(s.size:Int):=by omega
   have f4:=qh hle;have a8:Hid (¬T.s.length<i):=by show ¬_;rw[b4.o];omega
   obtain⟨c0,c1,c2,c3,c4,c5,c6,c7,c8,c9,e5,e6⟩:=HX.o.facts;have y:=qh (f5.o wr i hle HB.o);cases hlm:leftmost T e i with
   |  none=>
      rw[hlm]at y;have A:Hid (R=out++ [(5,(k:Int))]):=by show _=_;rw[<- S.out];exact rx_none e0.o a8.o hlm
      clear hlm hle hi;go_wp2_with (first
       | (go_at_call 20
          (refine y.o.mono ?_);rintro b6 w2 ⟨K,d⟩;obtain rfl:b6=_:=K;have N:=qh ((Ab HB.o d).alloc (Ab HB.o d).size (.cells #[.slice none 0 0] 42));have b:=qh (D.o.stays (d.alloc d.size (.cells #[.slice none 0 0] 42)));have B:=qh (Nat.le_trans e4.o (d.alloc d.size (.cells #[.slice none 0 0] 42)).size);clear d)
       | (at_builtin
          refine Fb _ rfl _ _ 36 underlying36 rfl w1.heap.size (.slice oa out.length oc) out (by rfl) b.o 5 (k:Int) (w2.heap.size+1) (by simp) (by rfl) (by have:=O.o;have:=HK.o;have:=U.o;omega) (by have u:=B.o;simpa using u) ?_;intro v7 w7 L g;have I:=qh L;have E:=qh (N.o.trans (g.below N.o.size (fun k hk e=>by have u:=(Own.Row.lt b.o k e.symm).1;have K:=t.o;omega)));obtain⟨a7,e7,rfl⟩:∃a c,v7=.slice a (out.length+1) c:=by have:=L.form;rwa [List.length_append]at this
          clear L g))
      go_ret;exact⟨⟨_,rfl,by rw[A.o];exact I.o.reps⟩,E.o⟩
   |  some om=>
      cases om with
      |none=>
       rw[hlm]at y;have b3:=qh (rx_no (l:=l) (k:=k) (last:=last) (out:=out) e0.o a8.o hlm);clear hlm hle
       go_upto_region 23 with (first
        | ( go_at_call 20
            (refine y.o.mono ?_);rintro b6 w2 ⟨K,d⟩;obtain rfl:b6=_:=K;have Q:=qh (d.alloc d.size (.cells #[.slice none 0 0] 42));have N:=qh (Ab HB.o Q.o);have B:=qh (Nat.le_trans e4.o Q.o.size);clear d c0 c1 c2 c3 c4 c5 c6 c7 c8 c9 e5 e6))
       generalize w2.alloc (.cells #[.slice none 0 0] 42)=w3 at*;by_cases hkl:k<l.length
       ·have Y:=b1.o hkl (b3.o)
        have A:=qh Y;have P:(k:Int)< (l.length:Int):=by omega
        have b:=qh (D.o.stays Q.o);clear Y hkl hi;go_wp2_with (first
           | (at_builtin
              refine Fb _ rfl _ _ 36 underlying36 rfl w1.heap.size (.slice oa out.length oc) out (by rfl) b.o 4 (k:Int) _ rfl (by rfl) (by have:=O.o;have:=HK.o;have:=U.o;omega) B.o ?_;intro v7 w7 L g;have I:=qh L;have E:=qh (N.o.trans (g.below (Nat.le_trans t.o B.o) (fun k hk e=>by have u:=(Own.Row.lt b.o k e.symm).1;have K:=t.o;omega)));obtain⟨a7,e7,rfl⟩:∃a c,v7=.slice a (out.length+1) c:=by have:=L.form;rwa [List.length_append]at this
              clear L g))
        go_ret;exact⟨⟨_,rfl,by rw[A.o];exact I.o.reps⟩,E.o⟩
       ·have Y:=b2.o hkl (b3.o)
        have A:=qh Y;have P:¬(k:Int)< (l.length:Int):=by omega
        have b:=qh (D.o.stays Q.o);clear Y hkl hi;go_wp2;go_ret;exact⟨⟨_,rfl,by rw[A.o];exact b.o.reps⟩,N.o⟩
      |some aq=>
       obtain⟨a,q⟩:=aq;obtain⟨u,K,h3,h4⟩:=Te (by rw[b4.o];exact hle) hlm;rw[b4.o]at h3;have b9:=qh hlm;rw[hlm]at y;obtain⟨m,M⟩:=q;simp only at u K h3;have HA:Hid (i<=a/\a<=m/\m<=s.size):=⟨u,K,h3⟩;have o9:(a:Int)<=(m:Int):=by omega
       have o6:(m:Int)<=10:=by omega
       clear hlm hle hi u K h3 h4
       go_upto_region 11 with (first
        | ( go_at_call 20
            (refine y.o.mono ?_);rintro b6 w2 ⟨⟨mv,rfl,g3⟩,d⟩;obtain⟨ma,mc,rfl⟩:∃a c,mv=.slice a (1+M.length) c:=by obtain⟨a',c',e⟩:=g3.shape;exact⟨a',c',by rw[e,show (Am a (m,M)).length=1+M.length by simp[Am];omega]⟩
            have d9:=qh g3;have Q:=qh (d.alloc d.size (.cells #[.slice ma (1+M.length) mc] 42));have f6:=qh (heap_alloc_new w2 (.cells #[.slice ma (1+M.length) mc] 42));clear d g3 c0 c1 c2 c3 c4 c5 c6 c7 c8 c9 e5 e6))
       have j2:=d9.o.len;have p1:(0:Int)<1+(M.length:Int):=by omega
       have o5:1+(M.length:Int)<=9223372036854775807:=by have u:=j2.2;unfold maxLen at u;omega
       obtain⟨mb,C,em,y0,y1⟩:=d9.o.at (j:=0) (x:=((a:Int),(m:Int))) rfl;subst em;rw[Nat.zero_mul,Nat.add_zero]at y0 y1;simp only at y0 y1;have e9:=qh (d9.o.stays (qb w2 (.cells #[.slice (some ⟨mb,C,none⟩) (1+M.length) mc] 42)));have n7:=upc (qb w2 (.cells #[.slice (some ⟨mb,C,none⟩) (1+M.length) mc] 42)) y0;have n8:=upc (qb w2 (.cells #[.slice (some ⟨mb,C,none⟩) (1+M.length) mc] 42)) y1;obtain⟨G,hG⟩:∃G,w2.heap.size=G:=⟨_,rfl⟩;rw[hG]at f6;generalize w2.alloc (.cells #[.slice (some ⟨mb,C,none⟩) (1+M.length) mc] 42)=w3 at*;have m0:w3.cell? ⟨G,0,none⟩=some (.slice (some ⟨mb,C,none⟩) (1+M.length) mc):=by rw[qc f6.o];rfl
       clear y0 y1 j2
       go_quiet (fail)
       obtain⟨w4,g6⟩:∃w4,w3.drewN nq=w4:=⟨_,rfl⟩;have b0:Hid (qw w3 w4):=by
        show Below _ _ _;rw[<- g6];exact Base.Ba (Below.refl _ _) _
       rw[g6];have m4:=upc b0.o m0;have h8:=qh (e9.o.stays b0.o);have a5:=qh (Ab Q.o b0.o);have f2:=qh (Ab HB.o a5.o);have J:=qh (D.o.stays a5.o);have i3:=qh (HX.o.stays a5.o);have a3:=qh (Nat.le_trans e4.o a5.o.size);obtain⟨n',rfl⟩:∃n',n=n'+1:=⟨n-1,by have:=e0.o;omega⟩;clear n7 n8 m0 g6 d9 e9 f6 Q y;by_cases hsk:a=m/\(a:Int)=last
       ·obtain⟨a0,n2⟩:=hsk
        subst a0;subst n2;have b:Hid (Bu T e l n' (a+1) (a:Int) k out=R):=by
           show _=_;rw[<- S.out];exact (rx_skip a8.o b9.o ⟨rfl,rfl⟩).symm
        clear m4;go_wp2;go_roundw
        case rel=>exact⟨n',a+1,k,a,out,_,by have:=HA.o;omega,by have u:=e2.o;have K:=HA.o;omega,rfl,rfl,rfl,by go_num,⟨by omega,by omega⟩,HK.o,O.o,b.o,J.o,i3.o,f2.o,a3.o⟩
        case measure=>have:=HA.o;have:=f4.o;simp[intOf];omega
       ·have f7:Hid (¬(a=(m,M).1/\(a:Int)=last)):=hsk
        obtain⟨np,b7⟩:∃np,(if a=m then m+1 else m)=np:=⟨_,rfl⟩;have h9:=qh b7;have a6:Hid (i+1<=np/\np<=s.size+1):=by show _/\_;have u:=HA.o;rw[<- b7];split <;> omega
        have m7:(((a:Int)==(m:Int))=true/\((a:Int)==last)=false/\((a:Int)=(m:Int))=True/\(a=m)=True/\(np:Int)=(m:Int)+1/\(a:Int)=(m:Int))\/(((a:Int)==(m:Int))=false/\((a:Int)=(m:Int))=False/\(a=m)=False/\(np:Int)=(m:Int)/\True):=by
           by_cases a0:a=m
           · refine .inl ⟨beq_iff_eq.2 (by omega),beq_eq_false_iff_ne.2 (fun h=>hsk ⟨a0,h⟩),eq_true (by omega),eq_true a0,?_,by omega⟩
             rw[<- b7,if_pos a0];omega
           · refine .inr ⟨beq_eq_false_iff_ne.2 (by omega),eq_false (by omega),eq_false a0,?_,trivial⟩
             rw[<- b7,if_neg a0]
        clear b7 hsk;rcases m7 with ⟨m5,p0,i6,i7,g4⟩ | ⟨m5,i6,i7,g4⟩;all_goals
           have e3:=qh g4;clear g4;by_cases hkl:k<l.length
           · have P:(k:Int)< (l.length:Int):=by omega
             have o0:¬(l.length:Int)<=(k:Int):=by omega
             have h6:Hid (k+1<=l.length):=hkl;obtain⟨lk,hz⟩:∃lk,l[k]? =some lk:=⟨_,List.getElem?_eq_getElem hkl⟩;obtain⟨lb,j9,sv,el,lx,g5⟩:=(m1.o.stays HB.o).at hz;subst el;obtain⟨sa,sc,rfl⟩:=g5.shape;have HZ:=qh hz;obtain⟨z,j8⟩:∃z,decide (lk=Am a (m,M))=z:=⟨_,rfl⟩;have f3:=qh j8;obtain⟨X,F,hN,a9,j6,hF⟩:=Quietly.worlds w4;have f1:=qh (fun x=>g5.stays (Ab a5.o (a9 x)));have f0:Hid (∀x,SpRd (F x) (.slice (some ⟨mb,C,none⟩) (1+M.length) mc) (Am a (m,M))):=fun x=>(h8.o.stays (a9 x)).rd;have n5:∀x,(F x).cell? ⟨lb,j9+k,none⟩=some (.slice sa lk.length sc):=fun x=>upc (Ab a5.o (a9 x)) lx;have n6:∀x,(F x).cell? ⟨G,0,none⟩=some (.slice (some ⟨mb,C,none⟩) (1+M.length) mc):=fun x=>upc (a9 x) m4;have h5:=qh a9;clear g5 lx m4 hz hkl j8;go_wp2_with fail
             refine Quietly.region (by kernel_rfl) (by kernel_rfl) j6 hF ?_;repeat go_big_quiet_step (first
               | (go_at_call 21
                  (with_reducible refine (Es _ _ lk (Am a (m,M)) _ (f1.o _) (f0.o _)).mono ?_);rintro e1 w5 ⟨rfl,m6⟩;exact⟨by rw[f3.o],hF _ _ m6⟩))
             refine wpQuiet_nil ?_;rintro _ ⟨xx,rfl⟩;obtain⟨w5,g7⟩:∃w5,F xx=w5:=⟨_,rfl⟩;have a2:Hid (qw w4 w5):=by rw[<- g7];exact h5.o xx
             rw[g7];clear n5 n6 f1 f0 h5 g7 j6 a9 hF hN;clear xx F X;have h0:=qh (Ab f2.o a2.o);have V:=qh (J.o.stays a2.o);have i4:=qh (i3.o.stays a2.o);have a4:=qh (Nat.le_trans a3.o a2.o.size);cases z
             · have b:Hid (Bu T e l n' np (m:Int) (k+1) (out++ [(2,(k:Int))])=R):=by
                show _=_;rw[<- S.out,Js a8.o b9.o f7.o HZ.o];simp only;rw[h9.o,if_neg (of_decide_eq_false f3.o)]
               go_wp2_with (first
                | (at_builtin
                   refine Fb _ rfl _ _ 36 underlying36 rfl w1.heap.size (.slice oa out.length oc) out (by rfl) V.o 2 (k:Int) _ rfl (by rfl) (by have:=O.o;have:=HK.o;have:=U.o;omega) a4.o ?_;intro v7 w7 L g;have I:=qh L;have g0:Below w1.heap.size w5 w7:=g.below a4.o (fun k hk e=>by have u:=(Own.Row.lt V.o k e.symm).1;omega);have E:=qh (h0.o.trans (g0.mono t.o));have m3:Hid (RX w7 w.heap.size p f gr (.slice va e.args.length vc) e):=(g0.block _ (by have u:=f8.o;omega)).trans i4.o;have i0:=qh (Nat.le_trans a4.o g.size);obtain⟨a7,e7,rfl⟩:∃a c,v7=.slice a (out.length+1) c:=by have:=L.form;rwa [List.length_append]at this
                   clear L g g0))
               go_roundw
               case rel=>exact⟨n',np,k+1,m,out++ [(2,(k:Int))],_,a6.o.2,by have u:=e2.o;have K:=a6.o;omega,rfl,by go_num,rfl,congrArg (Value.int .i64) (by have:=e3.o;omega),⟨by omega,by omega⟩,h6.o,by have:=O.o;simp;omega,b.o,I.o,m3.o,E.o,i0.o⟩
               case measure=>have:=a6.o;have:=e3.o;have:=f4.o;simp[intOf];omega
             · have b:Hid (Bu T e l n' np (m:Int) (k+1) (out)=R):=by
                show _=_;rw[<- S.out,Js a8.o b9.o f7.o HZ.o];simp only;rw[h9.o,if_pos (of_decide_eq_true f3.o)]
               go_wp2;go_roundw
               case rel=>exact⟨n',np,k+1,m,out,_,a6.o.2,by have u:=e2.o;have K:=a6.o;omega,rfl,by go_num,rfl,congrArg (Value.int .i64) (by have:=e3.o;omega),⟨by omega,by omega⟩,h6.o,by have:=O.o;omega,b.o,V.o,i4.o,h0.o,a4.o⟩
               case measure=>have:=a6.o;have:=e3.o;have:=f4.o;simp[intOf];omega
           · skip
             have A:Hid (R=out++ [(3,(k:Int))]):=by show _=_;rw[<- S.out];exact Ur a8.o b9.o f7.o (by omega)
             have P:(l.length:Int)<=(k:Int):=by omega
             clear hkl m4;go_wp2_with (first
               | (at_builtin
                  refine Fb _ rfl _ _ 36 underlying36 rfl w1.heap.size (.slice oa out.length oc) out (by rfl) J.o 3 (k:Int) _ rfl (by rfl) (by have:=O.o;have:=HK.o;have:=U.o;omega) a3.o ?_;intro v7 w7 L g;have I:=qh L;have E:=qh (f2.o.trans (g.below (Nat.le_trans t.o a3.o) (fun k hk e=>by have u:=(Own.Row.lt J.o k e.symm).1;have K:=t.o;omega)));obtain⟨a7,e7,rfl⟩:∃a c,v7=.slice a (out.length+1) c:=by have:=L.form;rwa [List.length_append]at this
                  clear L g))
             go_ret;exact⟨⟨_,rfl,by rw[A.o];exact I.o.reps⟩,E.o⟩
  ·have j0:¬(i:Int)<=(s.size:Int):=by omega
   have b3:=qh (rx_end (T:=T) (e:=e) (l:=l) (k:=k) (last:=last) (out:=out) (i:=i) e0.o (by rw[b4.o];omega));have N:=HB;have B:=e4;clear hle
   go_upto_region 23 with fail
   by_cases hkl:k<l.length
   ·  have Y:=b1.o hkl (b3.o)
      have A:=qh Y;have P:(k:Int)< (l.length:Int):=by omega
      have b:=qh (D.o.stays (Below.refl _ _));clear Y hkl hi;go_wp2_with (first
       | (at_builtin
          refine Fb _ rfl _ _ 36 underlying36 rfl w1.heap.size (.slice oa out.length oc) out (by rfl) b.o 4 (k:Int) _ rfl (by rfl) (by have:=O.o;have:=HK.o;have:=U.o;omega) B.o ?_;intro v7 w7 L g;have I:=qh L;have E:=qh (N.o.trans (g.below (Nat.le_trans t.o B.o) (fun k hk e=>by have u:=(Own.Row.lt b.o k e.symm).1;have K:=t.o;omega)));obtain⟨a7,e7,rfl⟩:∃a c,v7=.slice a (out.length+1) c:=by have:=L.form;rwa [List.length_append]at this
          clear L g))
      go_ret;exact⟨⟨_,rfl,by rw[A.o];exact I.o.reps⟩,E.o⟩
   ·  have Y:=b2.o hkl (b3.o)
      have A:=qh Y;have P:¬(k:Int)< (l.length:Int):=by omega
      have b:=qh (D.o.stays (Below.refl _ _));clear Y hkl hi;go_wp2;go_ret;exact⟨⟨_,rfl,by rw[A.o];exact b.o.reps⟩,N.o⟩
end ReMem
namespace ReMem
open Go Go.RowKit MatchMath Strs
theorem regexP_bad (p:ByteArray) (f b:Int) (e:Re) (v q:Value) (s:ByteArray) (l:List (List Span)) (w:World) (A:size e<=12) (h:Ag e) (j:Lies w v e.args) (n:MLies w q l) (m:Cd e b f p.size=false):
  Calls Tryz.prog 8 #[Bn p f b v e,.string s,q] w fun r w'=>(∃v',r=.returned v'/\KSame.Reps w' v' (Mz p f b e s l))/\qw w w':=by
 have a:=qh (fun W (hw:qw w W)=>Xo p f b e v W (by omega) h (j.stays hw));rw[m]at a;rw[show Mz p f b e s l= [(1,0)] from if_neg (by rw[m];decide)];obtain⟨t,u,rfl⟩:=j.shape;obtain⟨D,E,rfl⟩:=n.shape;have c:=qh (qb w (.cells (XA p f b e t u) 30));have i:=qh (RX.new w p f b (.slice t e.args.length u) e);obtain⟨c0,c1,c2,c3,c4,c5,c6,c7,c8,C,x,y⟩:=i.o.facts;unfold Bn at a ⊢;clear j n h A m;go_enter func8,ntmps8;go_wp2_with (first
  | (go_at_call 15
     (refine (a.o _ c.o).mono ?_);rintro z B ⟨rfl,g⟩;have d:=qh (Ab c.o g);clear g))
 go_ret;exact⟨⟨_,rfl,reps_one B 1 0⟩,d.o.alloc d.o.size _⟩
theorem regexP_good (p:ByteArray) (f gr:Int) (e:Re) (v lv:Value) (s:ByteArray) (l:List (List Span)) (w:World) (hs:size e<=12) (g9:Ag e) (hl:Lies w v e.args) (hm:MLies w lv l) (p0:s.size<=10) (m5:l.length<=20) (hv:Cd e gr f p.size=true) (ht:Tabs w):
  Calls Tryz.prog 8 #[Bn p f gr v e,.string s,lv] w fun r w'=>(∃v',r=.returned v'/\KSame.Reps w' v' (Mz p f gr e s l))/\qw w w':=by
 have d9:=qh (fun W (hw:qw w W)=>Xo p f gr e v W (by omega) g9 (hl.stays hw));rw[hv]at d9;rw[show Mz p f gr e s l=Hi (tx s (decide (4<=f))) e l from if_pos hv];obtain⟨f2,o7,o8⟩:=Qy hv;have m1:=Jx e f2;have m2:Af 6 e<=4096:=by
  have L:=f2;unfold Bf at L;simp only[Bool.and_eq_true,decide_eq_true_eq]at L;omega
 obtain⟨ln,h0⟩:∃z,decide (4<=f)=z:=⟨_,rfl⟩;rw[h0];have q0:(bits .and .i64 f 4 != 0)=ln:=by
  rw[<- h0];rcases (by omega:f=0\/f=1\/f=2\/f=3\/f=4\/f=5\/f=6\/f=7) with rfl | rfl | rfl | rfl | rfl | rfl | rfl | rfl <;> decide +kernel
 have g0:=qh (fun W i (hi:i<=s.size) (hw:qw w W)=>leftP_any s ln e v i W (hl.stays hw) g9 ((Ar e).2 f2) (by omega) m2 m1 hi (by omega) (ht.stays hw));obtain⟨T,hT⟩:∃T,tx s ln=T:=⟨_,rfl⟩;have b9:Hid (T.s.length=s.size):=by show _=_;rw[<- hT];exact Ce s
 rw[hT]at g0 ⊢;obtain⟨R,V⟩:∃R,Hi T e l=R:=⟨_,rfl⟩;rw[V];have o0:Hid (Bu T e l (s.size+2) 0 (-1) 0 []=R):=by show _=_;rw[<- V];unfold Hi;rw[b9.o]
 have q5:(s.size:Int)<=10:=by omega
 have p7:(l.length:Int)<=20:=by omega
 have i9:=qh m5;have n9:=qh hm;obtain⟨va,vc,rfl⟩:=hl.shape;obtain⟨la,lc,rfl⟩:=hm.shape;have i2:=qh (qb w (.cells (XA p f gr e va vc) 30));have j5:=qh (RX.new w p f gr (.slice va e.args.length vc) e);obtain⟨c0,c1,c2,c3,c4,c5,c6,c7,c8,c9,f0,f1⟩:=j5.o.facts;unfold Bn at d9 ⊢;unfold Ac at g0;clear hl hm g9 hs hv f2 m1 m2 h0 hT V p0 m5 o7 o8 ht;go_enter func8,ntmps8;go_wp2_with (first
  | (go_at_call 15
     (refine (d9.o _ i2.o).mono ?_);rintro e0 J ⟨rfl,g8⟩;have i3:=qh (Ab i2.o g8);have j6:=qh (j5.o.stays g8);clear g8 c0 c1 c2 c3 c4 c5 c6 c7 c8 c9 f0 f1))
 have O:=qh i3.o.size;have g5:Hid (w.heap.size<J.heap.size):=(qd j6.o);have i7:=qh (qb J (.cells #[.slice none 0 0] 63));have j2:Hid (RB (J.alloc (.cells #[.slice none 0 0] 63)) J.heap.size (J.heap.size+1) []):=⟨.slice none 0 0,heap_alloc_new J _,RR.nil _ _,Nat.lt_succ_self _,by simp⟩;have o3:=qh (j6.o.stays i7.o);have i4:=qh (Ab i3.o i7.o)
 go_loopw [7,8,9] (fun av ev kv wr=>∃(n i k:Nat) (last:Int) (out:List (Int×Int)),i<=s.size+1/\s.size+2<=n+i/\kv=.int .i64 k/\ev=.int .i64 last/\av=.int .i64 i/\(-1<=last/\last<=10)/\k<=l.length/\out.length<=k/\Hid (Bu T e l n i last k out=R)/\RB wr J.heap.size (J.heap.size+1) out/\RX wr w.heap.size p f gr (.slice va e.args.length vc) e/\qw w wr) (fun av _ _ _=>s.size+2-(intOf av).toNat)
 case atStart=>exact⟨s.size+2,0,0, -1,[],by omega,by omega,rfl,rfl,rfl,⟨by omega,by omega⟩,Nat.zero_le _,Nat.zero_le _,o0.o,j2.o,o3.o,i4.o⟩
 case round=>
  obtain⟨n,i,k,last,out,hi,m8,rfl,rfl,rfl,a0,hk,m9,Q,e3,n2,hb⟩:=hrel;have I:=qh e3;have HX:=qh n2;have HB:=qh hb;have o1:Hid (J.heap.size+1<=wr.heap.size):=by obtain⟨_,_,_,_,_,_,_,h⟩:=e3.cell;exact h
  have HK:=qh hk;have g3:=qh m9;have e8:=qh m8;have n8:=qh hi;have p5:(k:Int)<=20:=by have:=i9.o;omega
  have q7:0<=(k:Int):=by omega
  have p8: -1<=last:=a0.1;have p9:last<=10:=a0.2;have B:Hid (out.length<=1000):=by show _<=_;have:=i9.o;omega
  clear e3 n2 hb a0 m9 m8;have e6:Hid (0<n):=by show _<_;have L:=e8.o;have U:=n8.o;omega
  have b2:Hid (k<l.length->(Bu T e l n i last k out=if k<l.length then out++ [(4,(k:Int))] else out)->R=out++ [(4,(k:Int))]):=fun L U=>by rw[<- Q.out,U,if_pos L]
  have b3:Hid (¬k<l.length->(Bu T e l n i last k out=if k<l.length then out++ [(4,(k:Int))] else out)->R=out):=fun L U=>by rw[<- Q.out,U,if_neg L]
  by_cases hle:i<=s.size
  ·have m3:(i:Int)<=(s.size:Int):=by omega
   have f9:=qh hle;have a4:Hid (¬T.s.length<i):=by show ¬_;rw[b9.o];omega
   obtain⟨c0,c1,c2,c3,c4,c5,c6,c7,c8,c9,f0,f1⟩:=HX.o.facts;have A:=qh (g0.o wr i hle HB.o);cases hlm:leftmost T e i with
   |  none=>
      rw[hlm]at A;have C:Hid (R=out++ [(5,(k:Int))]):=by show _=_;rw[<- Q.out];exact rx_none e6.o a4.o hlm
      clear hlm hle hi;go_wp2_with (first
       | (go_at_call 16
          (refine A.o.mono ?_);rintro e0 w2 ⟨U,D⟩;obtain rfl:e0=_:=U;have u:=qh (D.alloc D.size (.cells #[.slice none 0 0] 42));have n6:=qh (Ab HB.o u.o);have t:=qh (I.o.stays u.o);clear D)
       | (go_at_call 17
          (refine (Fs J.heap.size (J.heap.size+1) out 5 (k:Int) _ t.o (by omega) B.o).mono ?_);rintro e7 w7 ⟨rfl,M,d⟩;have b5:=qh M;have a2:=qh d;have K:=qh (n6.o.trans (d.below.mono O.o));obtain⟨a7,a5,r0, -, -,b, -, -⟩:=M.cell;have g:=qh b;rw[List.length_append]at r0;clear M d b))
      go_ret;exact⟨⟨_,rfl,by rw[C.o];have h:=g.o.reps;rw[List.length_append]at h;exact h⟩,K.o⟩
   |  some om=>
      cases om with
      |none=>
       rw[hlm]at A;have b4:=qh (rx_no (l:=l) (k:=k) (last:=last) (out:=out) e6.o a4.o hlm);clear hlm hle
       go_upto_region 24 with (first
        | ( go_at_call 16
            (refine A.o.mono ?_);rintro e0 w2 ⟨U,D⟩;obtain rfl:e0=_:=U;have u:=qh (D.alloc D.size (.cells #[.slice none 0 0] 42));clear D c0 c1 c2 c3 c4 c5 c6 c7 c8 c9 f0 f1))
       generalize w2.alloc (.cells #[.slice none 0 0] 42)=w3 at*;by_cases hkl:k<l.length
       ·have V:=b2.o hkl (b4.o)
        have C:=qh V;have P:(k:Int)< (l.length:Int):=by omega
        have t:=qh (I.o.stays u.o);have y:=qh (Ab HB.o u.o);clear V hkl hi;go_wp2_with (first
           | (go_at_call 17
              (refine (Fs J.heap.size (J.heap.size+1) out 4 (k:Int) _ t.o (by omega) B.o).mono ?_);rintro e7 w7 ⟨rfl,M,d⟩;have b5:=qh M;have a2:=qh d;have K:=qh (y.o.trans (d.below.mono O.o));obtain⟨a7,a5,r0, -, -,b, -, -⟩:=M.cell;have g:=qh b;rw[List.length_append]at r0;clear M d b))
        go_ret;exact⟨⟨_,rfl,by rw[C.o];have h:=g.o.reps;rw[List.length_append]at h;exact h⟩,K.o⟩
       ·have V:=b3.o hkl (b4.o)
        have C:=qh V;have P:¬(k:Int)< (l.length:Int):=by omega
        have t:=qh (I.o.stays u.o);have y:=qh (Ab HB.o u.o);obtain⟨a7,a5,r0, -, -,b, -, -⟩:=t.o.cell;have g:=qh b;clear V hkl hi b;go_wp2;go_ret;exact⟨⟨_,rfl,by rw[C.o];exact g.o.reps⟩,y.o⟩
      |some aq=>
       obtain⟨a,q⟩:=aq;obtain⟨L,U,h3,h4⟩:=Te (by rw[b9.o];exact hle) hlm;rw[b9.o]at h3;have e4:=qh hlm;rw[hlm]at A;obtain⟨m,N⟩:=q;simp only at L U h3;have HA:Hid (i<=a/\a<=m/\m<=s.size):=⟨L,U,h3⟩;have q6:(a:Int)<=(m:Int):=by omega
       have q4:(m:Int)<=10:=by omega
       clear hlm hle hi L U h3 h4
       go_upto_region 11 with (first
        | ( go_at_call 16
            (refine A.o.mono ?_);rintro e0 w2 ⟨⟨mv,rfl,h5⟩,D⟩;obtain⟨ma,mc,rfl⟩:∃a c,mv=.slice a (1+N.length) c:=by obtain⟨a',c',e⟩:=h5.shape;exact⟨a',c',by rw[e,show (Am a (m,N)).length=1+N.length by simp[Am];omega]⟩
            have e5:=qh h5;have u:=qh (D.alloc D.size (.cells #[.slice ma (1+N.length) mc] 42));have g1:=qh (heap_alloc_new w2 (.cells #[.slice ma (1+N.length) mc] 42));clear D h5 c0 c1 c2 c3 c4 c5 c6 c7 c8 c9 f0 f1))
       have m7:=e5.o.len;have q9:(0:Int)<1+(N.length:Int):=by omega
       have q3:1+(N.length:Int)<=9223372036854775807:=by have L:=m7.2;unfold maxLen at L;omega
       obtain⟨mb,E,em,y0,y1⟩:=e5.o.at (j:=0) (x:=((a:Int),(m:Int))) rfl;subst em;rw[Nat.zero_mul,Nat.add_zero]at y0 y1;simp only at y0 y1;have f3:=qh (e5.o.stays (qb w2 (.cells #[.slice (some ⟨mb,E,none⟩) (1+N.length) mc] 42)));have p3:=upc (qb w2 (.cells #[.slice (some ⟨mb,E,none⟩) (1+N.length) mc] 42)) y0;have p4:=upc (qb w2 (.cells #[.slice (some ⟨mb,E,none⟩) (1+N.length) mc] 42)) y1;obtain⟨G,hG⟩:∃G,w2.heap.size=G:=⟨_,rfl⟩;rw[hG]at g1;generalize w2.alloc (.cells #[.slice (some ⟨mb,E,none⟩) (1+N.length) mc] 42)=w3 at*;have m0:w3.cell? ⟨G,0,none⟩=some (.slice (some ⟨mb,E,none⟩) (1+N.length) mc):=by rw[qc g1.o];rfl
       have b7:=qh (heap_alloc_new w3 (.cells #[.int .i64 (a:Int),.int .i64 (m:Int)] 53));have a8:=qh (qb w3 (.cells #[.int .i64 (a:Int),.int .i64 (m:Int)] 53));clear y0 y1 m7
       go_upto_region 12 with fail
       obtain⟨GS,j8⟩:∃GS,w3.heap.size=GS:=⟨_,rfl⟩;have n7:Hid (wr.heap.size<=GS):=by show _<=_;rw[<- j8];exact u.o.size
       rw[j8]at b7;generalize w3.alloc (.cells #[.int .i64 (a:Int),.int .i64 (m:Int)] 53)=w4 at*;have j3:Hid (Sp1 w4 GS (a:Int) (m:Int)):=b7.o;obtain⟨s0,s1⟩:=j3.o.facts;have m4:=upc a8.o m0;have j0:=qh (f3.o.stays a8.o);have b1:=qh (Ab u.o a8.o);have f6:=qh (Ab HB.o b1.o);have S:=qh (I.o.stays b1.o);have j7:=qh (HX.o.stays b1.o);obtain⟨n',rfl⟩:∃n',n=n'+1:=⟨n-1,by have:=e6.o;omega⟩;clear p3 p4 m0 e5 f3 g1 u A b7;skip
       by_cases hsk:a=m/\(a:Int)=last
       ·obtain⟨Y,o9⟩:=hsk
        subst Y;subst o9;have t:Hid (Bu T e l n' (a+1) (a:Int) k out=R):=by
           show _=_;rw[<- Q.out];exact (rx_skip a4.o e4.o ⟨rfl,rfl⟩).symm
        clear m4;go_wp2;go_roundw
        case rel=>exact⟨n',a+1,k,a,out,by have:=HA.o;omega,by have L:=e8.o;have U:=HA.o;omega,rfl,rfl,by go_num,⟨by omega,by omega⟩,HK.o,g3.o,t.o,S.o,j7.o,f6.o⟩
        case measure=>have:=HA.o;have:=f9.o;simp[intOf];omega
       ·have g2:Hid (¬(a=(m,N).1/\(a:Int)=last)):=hsk
        obtain⟨np,e2⟩:∃np,(if a=m then m+1 else m)=np:=⟨_,rfl⟩;have j1:=qh e2;have a3:Hid (i+1<=np/\np<=s.size+1):=by show _/\_;have L:=HA.o;rw[<- e2];split <;> omega
        have o6:(((a:Int)==(m:Int))=true/\((a:Int)==last)=false/\((a:Int)=(m:Int))=True/\(a=m)=True/\(np:Int)=(m:Int)+1/\(a:Int)=(m:Int))\/(((a:Int)==(m:Int))=false/\((a:Int)=(m:Int))=False/\(a=m)=False/\(np:Int)=(m:Int)/\True):=by
           by_cases Y:a=m
           · refine .inl ⟨beq_iff_eq.2 (by omega),beq_eq_false_iff_ne.2 (fun h=>hsk ⟨Y,h⟩),eq_true (by omega),eq_true Y,?_,by omega⟩
             rw[<- e2,if_pos Y];omega
           · refine .inr ⟨beq_eq_false_iff_ne.2 (by omega),eq_false (by omega),eq_false Y,?_,trivial⟩
             rw[<- e2,if_neg Y]
        clear e2 hsk;rcases o6 with ⟨o4,q8,j9,k0,h6⟩ | ⟨o4,j9,k0,h6⟩;all_goals
           have e9:=qh h6;clear h6;by_cases hkl:k<l.length
           · have P:(k:Int)< (l.length:Int):=by omega
             have p6:¬(l.length:Int)<=(k:Int):=by omega
             have i8:Hid (k+1<=l.length):=hkl;obtain⟨lk,hz⟩:∃lk,l[k]? =some lk:=⟨_,List.getElem?_eq_getElem hkl⟩;obtain⟨lb,n5,sv,el,lx,h8⟩:=(n9.o.stays HB.o).at hz;subst el;obtain⟨sa,sc,rfl⟩:=h8.shape;have HZ:=qh hz;obtain⟨z,n4⟩:∃z,decide (lk=Am a (m,N))=z:=⟨_,rfl⟩;have f8:=qh n4
             go_upto_region 18 with fail
             obtain⟨X,F,hN,a6,n3,hF⟩:=Quietly.worlds w4;have f5:=qh (fun x=>h8.stays (Ab b1.o (a6 x)));have f4:Hid (∀x,SpRd (F x) (.slice (some ⟨mb,E,none⟩) (1+N.length) mc) (Am a (m,N))):=fun x=>(j0.o.stays (a6 x)).rd;have p1:∀x,(F x).cell? ⟨lb,n5+k,none⟩=some (.slice sa lk.length sc):=fun x=>upc (Ab b1.o (a6 x)) lx;have p2:∀x,(F x).cell? ⟨G,0,none⟩=some (.slice (some ⟨mb,E,none⟩) (1+N.length) mc):=fun x=>upc (a6 x) m4;have i6:=qh a6;clear h8 lx m4 hz hkl n4 s0 s1;refine Quietly.region (by kernel_rfl) (by kernel_rfl) n3 hF ?_;repeat go_big_quiet_step (first
               | (go_at_call 18
                  (with_reducible refine (Ns _ _ lk (Am a (m,N)) _ (f5.o _) (f4.o _)).mono ?_);rintro e1 w5 ⟨rfl,o5⟩;exact⟨by rw[f8.o],hF _ _ o5⟩))
             refine wpQuiet_nil ?_;rintro _ ⟨xx,rfl⟩;obtain⟨w5,h9⟩:∃w5,F xx=w5:=⟨_,rfl⟩;have a1:Hid (qw w4 w5):=by rw[<- h9];exact i6.o xx
             rw[h9];clear p1 p2 f5 f4 i6 h9 n3 a6 hF hN;clear xx F X;have i5:=qh (Ab f6.o a1.o);have b6:=qh (S.o.stays a1.o);have g6:=qh (j7.o.stays a1.o);have b8:=qh (j3.o.stays a1.o);obtain⟨s0,s1⟩:=b8.o.facts;cases z
             · have t:Hid (Bu T e l n' np (m:Int) (k+1) (out++ [(2,(k:Int))])=R):=by
                show _=_;rw[<- Q.out,Js a4.o e4.o g2.o HZ.o];simp only;rw[j1.o,if_neg (of_decide_eq_false f8.o)]
               go_upto_region 21 with (first
                | (go_at_call 17
                   (refine (Fs J.heap.size (J.heap.size+1) out 2 (k:Int) _ b6.o (by omega) B.o).mono ?_);rintro e7 w7 ⟨rfl,M,d⟩;have b5:=qh M;have a2:=qh d;have K:=qh (i5.o.trans (d.below.mono O.o));obtain⟨a7,a5,r0, -, -,b, -, -⟩:=M.cell;have g:=qh b;rw[List.length_append]at r0;clear M d b))
               have m6:J.heap.size+1<=wr.heap.size:=o1.o;have j4:Hid (Sp1 w7 GS (a:Int) (m:Int)):=(a2.o.keep GS _ _ _ (by decide) (by have L:=n7.o;omega) b8.o).trans b8.o;have o2:Hid (RX w7 w.heap.size p f gr (.slice va e.args.length vc) e):=(a2.o.keep _ _ _ _ (by decide) (by have L:=g5.o;omega) g6.o).trans g6.o;clear s0 s1;obtain⟨s0,s1⟩:=j4.o.facts
               go_quiet (fail)
               obtain⟨w8,i1⟩:∃w8,w7.drewN nq=w8:=⟨_,rfl⟩;have b0:Hid (qw w7 w8):=by
                show Below _ _ _;rw[<- i1];exact Base.Ba (Below.refl _ _) _
               rw[i1];have g4:=qh (b5.o.stays b0.o);have g7:=qh (o2.o.stays b0.o);have f7:=qh (Ab K.o b0.o);clear i1 r0 m6;go_wp2;go_roundw
               case rel=>exact⟨n',np,k+1,m,out++ [(2,(k:Int))],a3.o.2,by have L:=e8.o;have U:=a3.o;omega,by go_num,rfl,congrArg (Value.int .i64) (by have:=e9.o;omega),⟨by omega,by omega⟩,i8.o,by have:=g3.o;simp;omega,t.o,g4.o,g7.o,f7.o⟩
               case measure=>have:=a3.o;have:=e9.o;have:=f9.o;simp[intOf];omega
             · have t:Hid (Bu T e l n' np (m:Int) (k+1) (out)=R):=by
                show _=_;rw[<- Q.out,Js a4.o e4.o g2.o HZ.o];simp only;rw[j1.o,if_pos (of_decide_eq_true f8.o)]
               go_upto_region 21 with fail
               go_quiet (fail)
               obtain⟨w6,i0⟩:∃w6,w5.drewN nq=w6:=⟨_,rfl⟩;have a9:Hid (qw w5 w6):=by
                show Below _ _ _;rw[<- i0];exact Base.Ba (Below.refl _ _) _
               rw[i0];have g4:=qh (b6.o.stays a9.o);have g7:=qh (g6.o.stays a9.o);have f7:=qh (Ab i5.o a9.o);clear i0;go_wp2;go_roundw
               case rel=>exact⟨n',np,k+1,m,out,a3.o.2,by have L:=e8.o;have U:=a3.o;omega,by go_num,rfl,congrArg (Value.int .i64) (by have:=e9.o;omega),⟨by omega,by omega⟩,i8.o,by have:=g3.o;omega,t.o,g4.o,g7.o,f7.o⟩
               case measure=>have:=a3.o;have:=e9.o;have:=f9.o;simp[intOf];omega
           · skip
             have C:Hid (R=out++ [(3,(k:Int))]):=by show _=_;rw[<- Q.out];exact Ur a4.o e4.o g2.o (by omega)
             have P:(l.length:Int)<=(k:Int):=by omega
             clear hkl m4;go_wp2_with (first
               | (go_at_call 17
                  (refine (Fs J.heap.size (J.heap.size+1) out 3 (k:Int) _ S.o (by omega) B.o).mono ?_);rintro e7 w7 ⟨rfl,M,d⟩;have b5:=qh M;have a2:=qh d;have K:=qh (f6.o.trans (d.below.mono O.o));obtain⟨a7,a5,r0, -, -,b, -, -⟩:=M.cell;have g:=qh b;rw[List.length_append]at r0;clear M d b))
             go_ret;exact⟨⟨_,rfl,by rw[C.o];have h:=g.o.reps;rw[List.length_append]at h;exact h⟩,K.o⟩
  ·have m3:¬(i:Int)<=(s.size:Int):=by omega
   have b4:=qh (rx_end (T:=T) (e:=e) (l:=l) (k:=k) (last:=last) (out:=out) (i:=i) e6.o (by rw[b9.o];omega));clear hle
   go_upto_region 24 with fail
   by_cases hkl:k<l.length
   ·  have V:=b2.o hkl (b4.o)
      have C:=qh V;have P:(k:Int)< (l.length:Int):=by omega
      have t:=qh (I.o);have y:=qh (HB.o);clear V hkl hi;go_wp2_with (first
       | (go_at_call 17
          (refine (Fs J.heap.size (J.heap.size+1) out 4 (k:Int) _ t.o (by omega) B.o).mono ?_);rintro e7 w7 ⟨rfl,M,d⟩;have b5:=qh M;have a2:=qh d;have K:=qh (y.o.trans (d.below.mono O.o));obtain⟨a7,a5,r0, -, -,b, -, -⟩:=M.cell;have g:=qh b;rw[List.length_append]at r0;clear M d b))
      go_ret;exact⟨⟨_,rfl,by rw[C.o];have h:=g.o.reps;rw[List.length_append]at h;exact h⟩,K.o⟩
   ·  have V:=b3.o hkl (b4.o)
      have C:=qh V;have P:¬(k:Int)< (l.length:Int):=by omega
      have t:=qh (I.o);have y:=qh (HB.o);obtain⟨a7,a5,r0, -, -,b, -, -⟩:=t.o.cell;have g:=qh b;clear V hkl hi b;go_wp2;go_ret;exact⟨⟨_,rfl,by rw[C.o];exact g.o.reps⟩,y.o⟩
end ReMem
namespace ReMem
open Go Go.RowKit MatchMath Strs
theorem lawCount_any:∀(d:Nat) (e:Re) (v:Value) (n:Nat) (w:World),d<=8->n<=12->Ag e->Lies w v e.args->
  Calls Tryz.prog 10 #[Ac v e,.int .i64 n,.int .i64 d] w fun r w'=>(∃k:Nat,r=.returned (.int .i64 k)/\1<=k/\k<=n+1/\(k<=n->k=size e))/\qw w w':=by
 intro d
 induction d with
 |zero=>
  intro e v n w _ hn _ U;obtain⟨a,c,vs,rfl, -, -⟩:=U.opened;obtain⟨o,p,l,h,g,args⟩:=e;clear U;unfold Ac;simp only[Re.op,Re.set,Re.lo,Re.hi,Re.group,Re.args]at*;generalize Sets.Aa p 0=x0 at*;generalize Sets.Aa p 1=x1 at*;generalize Sets.Aa p 2=x2 at*;generalize Sets.Aa p 3=x3 at*;have z:=qh (qb w (.cells #[.int .i64 o,.int .u64 x0,.int .u64 x1,.int .u64 x2,.int .u64 x3,.int .i64 l,.int .i64 h,.int .i64 g,.slice a args.length c] 28));have c9:(n:Int)<=12:=by omega
  have e0:0<=(n:Int):=by omega
  have B:Hid ((n:Int)+1=((n+1:Nat):Int)):=by show _=_;omega
  rw[show (((0:Nat):Int))=0 from rfl];generalize hN:((n:Nat):Int)=N at*;clear hN;go_enter func10,ntmps10;go_wp2;go_ret;exact⟨⟨n+1,by rw[<- B.o];rfl,by omega,ql,fun h=>by omega⟩,z.o⟩
 |succ d ih=>
  intro e v n w b9 hn M U;obtain⟨o,p,l,h,g,args⟩:=e;obtain⟨a,c,vs,rfl,⟨a4,a3⟩,ho⟩:=U.opened;have b2:1<=((d+1:Nat):Int):=by omega
  have b3:((d+1:Nat):Int)<=8:=by omega
  have D:Hid (((d+1:Nat):Int)-1=(d:Int)):=by show _=_;omega
  have a6:((n:Nat):Int)<=12:=by omega
  have b4:0<=((n:Nat):Int):=by omega
  have B:Hid (((n:Nat):Int)+1=((n+1:Nat):Int)):=by show _=_;omega
  have V:=qh (fun t v W (k:Nat) (hk:k<=n) (u:Ag t) (x:Lies W v t.args)=>(by rw[D.o,show (n:Int)-(k:Int)=((n-k:Nat):Int) from by omega];exact ih t v (n-k) W (by omega) (by omega) u x:Calls Tryz.prog 10 #[Ac v t,.int .i64 ((n:Int)-(k:Int)),.int .i64 (((d+1:Nat):Int)-1)] W fun r w'=>(∃k':Nat,r=.returned (.int .i64 k')/\1<=k'/\k'<=n-k+1/\(k'<=n-k->k'=size t))/\qw W w'));clear ih U;have a2:Hid (size (.mk o p l h g args)=1+sizes args):=by show _=_;rw[size]
  unfold Ac;simp only[Re.op,Re.set,Re.lo,Re.hi,Re.group,Re.args]at*;have b5:args.length<=9223372036854775807:=Nat.le_trans a4 a3;have HO:=qh ho;clear ho M;generalize size (.mk o p l h g args)=S at*;generalize Sets.Aa p 0=x0 at*;generalize Sets.Aa p 1=x1 at*;generalize Sets.Aa p 2=x2 at*;generalize Sets.Aa p 3=x3 at*;generalize ((d+1:Nat):Int)=L at*;clear D;have z:=qh (qb w (.cells #[.int .i64 o,.int .u64 x0,.int .u64 x1,.int .u64 x2,.int .u64 x3,.int .i64 l,.int .i64 h,.int .i64 g,.slice a args.length c] 28));have E:=qh (Box9.new w o x0 x1 x2 x3 l h g (.slice a args.length c) 28);have b1:¬L=0:=by omega
  by_cases h1:6< (args.length:Int)
  ·clear V
   generalize hN:((n:Nat):Int)=N at*;clear hN;go_enter func10,ntmps10;go_wp2;go_ret;exact⟨⟨n+1,by rw[<- B.o];rfl,by omega,ql,fun h=>by omega⟩,z.o⟩
  ·by_cases h2:4<l
   ·clear V
    generalize hN:((n:Nat):Int)=N at*;clear hN;go_enter func10,ntmps10;go_wp2;go_ret;exact⟨⟨n+1,by rw[<- B.o];rfl,by omega,ql,fun h=>by omega⟩,z.o⟩
   ·by_cases h3:4<h
    ·clear V
     generalize hN:((n:Nat):Int)=N at*;clear hN;go_enter func10,ntmps10;go_wp2;go_ret;exact⟨⟨n+1,by rw[<- B.o];rfl,by omega,ql,fun h=>by omega⟩,z.o⟩
    ·go_enter func10,ntmps10
     go_wp2
     go_loopw [7,8] (fun m i wr=>∃q k:Nat,q<=args.length/\i=.int .i64 q/\m=.int .i64 k/\1<=k/\k<=n+1/\(k<=n->k=1+sizes (args.take q))/\qw w wr/\Box9 wr w.heap.size o x0 x1 x2 x3 l h g (.slice a args.length c)) (fun _ i _=>args.length-(intOf i).toNat)
     case atStart=>exact⟨0,1,Nat.zero_le _,rfl,rfl,ql,by omega,fun _=>rfl,z.o,E.o⟩
     case round=>
      obtain⟨q,k,hq,rfl,rfl,P,Q,T,G,J⟩:=hrel;have C:=qh T;have Y:=qh J;have y:=qh G;obtain⟨d0,d1,d2,d3,d4,d5,d6,d7,d8,d9⟩:=J;clear T;have a9:1<=(k:Int):=by omega
      have b0:(k:Int)<=(n:Int)+1:=by omega
      by_cases hlt:q<args.length
      ·have a5:(q:Int)< (args.length:Int):=by omega
       by_cases hkn:k<=n
       ·obtain⟨t,v,b,off,ht,hv,rfl,⟨k0,k1,k2,k3,k4,k5,k6,k7,k8⟩,x,u,hm⟩:=(HO.o.stays G).at hlt
        have R:(k:Int)<=(n:Int):=by omega
        have HC:=qh (V.o t v wr k hkn u x);have a1:=qh (Ch ht);unfold Ac at HC;clear ht hv u x hm G
        go_wp2_with (go_at_call 10
                     (with_reducible refine HC.o.mono ?_);rintro e w3 ⟨⟨j,rfl,b6,b7,O⟩,I⟩;have a0:=qh O;have X:=qh (Ab y.o I);have A:=qh (Y.o.stays I);have a7:1<=(j:Int):=(by omega);have a8:(j:Int)<=14:=(by omega);clear O)
        go_roundw
        case rel=>exact⟨q+1,k+j,by omega,by go_num,by go_num,by omega,by omega,fun b8=>by have e1:=C.o hkn;have e2:=a0.o (by omega);have e3:=a1.o;omega,X.o,A.o⟩
        case measure=>simp[intOf];omega
       ·have R:¬(k:Int)<=(n:Int):=by omega
        clear G;go_wp2;go_ret;exact⟨⟨k,rfl,P,Q,fun h=>absurd h hkn⟩,y.o⟩
      ·have a5:¬(q:Int)< (args.length:Int):=by omega
       have K:q=args.length:=by omega
       have HQ:=qh K;clear G K;go_wp2;go_ret;exact⟨⟨k,rfl,P,Q,fun h=>by rw[a2.o,C.o h,HQ.o,List.take_length]⟩,y.o⟩
theorem small_any (e:Re) (v:Value) (w:World) (a:Ag e) (p:Lies w v e.args):
  Calls Tryz.prog 4 #[Ac v e,.int .i64 12] w fun r w'=>(∃b,r=.returned (.bool b)/\(b=true->size e<=12))/\qw w w':=by
 have n:=qh (fun W (j:qw w W)=>(lawCount_any 8 e v 12 W ql ql a (p.stays j):Calls Tryz.prog 10 #[Ac v e,.int .i64 12,.int .i64 8] W fun r w'=>(∃k:Nat,r=.returned (.int .i64 k)/\1<=k/\k<=12+1/\(k<=12->k=size e))/\qw W w'));unfold Ac at n ⊢;clear a p;generalize e.op=o at*;generalize e.lo=l at*;generalize e.hi=h at*;generalize e.group=g at*;generalize Sets.Aa e.set 0=x0 at*;generalize Sets.Aa e.set 1=x1 at*;generalize Sets.Aa e.set 2=x2 at*;generalize Sets.Aa e.set 3=x3 at*;have c:=qh (qb w (.cells #[.int .i64 o,.int .u64 x0,.int .u64 x1,.int .u64 x2,.int .u64 x3,.int .i64 l,.int .i64 h,.int .i64 g,v] 28));go_enter func4,ntmps4
 go_wp2_with (go_at_call 10
              refine (n.o _ c.o).mono ?_;rintro x y ⟨⟨k,rfl,t,u,d⟩,m⟩;have q:=qh d;have i:=qh (Ab c.o m);clear d)
 go_ret;refine⟨⟨_,rfl,fun j=>?_⟩,i.o⟩;have:(k:Int)<=12:=by simpa using j
 have:=q.o (by omega);omega
end ReMem
end Go.Proofs.YtjefcpjciogcjaaGreatDoor
