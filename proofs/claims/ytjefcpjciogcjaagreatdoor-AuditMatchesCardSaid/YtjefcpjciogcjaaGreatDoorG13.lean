/- Lemmas for the walk of the law, in 3 parts. No condition beyond what each states. -/
import Derived.Test.YtjefcpjciogcjaaGreatDoorG11
import Derived.Test.YtjefcpjciogcjaaGreatDoorG12
import Derived.Deep.RegionHeld2
import Derived.Test.YtjefcpjciogcjaaGreatDoorG5
namespace Go.Proofs.YtjefcpjciogcjaaGreatDoor
set_option maxRecDepth 100000
set_option linter.unusedVariables false
set_option maxHeartbeats 40000000
open List renaming setIfInBounds_toArray->yT,set_cons_zero->y9,set_cons_succ->yS
open Tryz
namespace ReMem
open Go Go.RowKit MatchMath
def Fm (s:ByteArray) (ln:Bool) (k n:Nat):Prop:=∀(e:Re) (v sv:Value) (i:Nat) (l:List Span) (mm:Nat) (w:World),size e<n->gok k e=true->Ag e->Lies w v e.args->Al w sv l->l.length=k->SpOk s.size l->i<=s.size->TBox w mm s ln->Tabs w->
 Calls Tryz.prog 126 #[.pointer (some ⟨mm,0,none⟩),Ac v e,.int .i64 i,sv] w (PRes w ((tx s ln).parses e i l))
theorem pok_fit {n k i:Nat} {p:Parse} (h:POk n k i p) (o:n<=4096) (m:k<=4096):PFit p:=by
 obtain⟨g,j,l,d⟩:=h;refine⟨by omega,fun x e=>?_,by omega⟩;rcases d x e with rfl | ⟨a,b,c⟩
 · exact⟨⟨by decide,by decide⟩,⟨by decide,by decide⟩⟩
 · omega
def VC (H mm:Nat) (s:ByteArray) (ln:Bool) (o:Int) (x0 x1 x2 x3:Nat) (lo hi g:Int) (av ov:Value) (w:World) (res:Option RSt) (r:Ending) (w':World):Prop:=
 (match res with
   | none=>r=tooMany
   | some st=>r=.returned (.tuple #[])/\∃ov',RS w' H mm s ln o x0 x1 x2 x3 lo hi g av ov' st/\Near w.heap.size ov ov')/\Chg (RC H ov) w w'
theorem visitC_any (s:ByteArray) (O:Bool) (k n:Nat) (hp:Fm s O k n) (e t:Re) (d9:e.args= [t]) (o5:e.op=5) (u4:size t<n) (u5:size e<=100) (a9:gok k e=true) (m9:Ag e) (H mm:Nat) (av:Value) (W0:World) (hl:Lies W0 av e.args) (hH:W0.heap.size<=H) (o8:Tabs W0) (t6:TBox W0 mm s O) (A3:s.size<=4096) (hk:k<=4096):
  ∀(u:Nat) (c:Int) (p:Parse) (sv:Value) (z:RSt) (ov:Value) (w:World),most+1<=u+z.1.length->z.1.length<=most->z.2.length<=z.1.length->0<=c->c<=65->qw W0 w->RS w H mm s O e.op (Sets.Aa e.set 0) (Sets.Aa e.set 1) (Sets.Aa e.set 2) (Sets.Aa e.set 3) e.lo e.hi e.group av ov z->Al w sv p.2->p.2.length=k->SpOk s.size p.2->p.1<=s.size->
  Calls Tryz.prog 204 #[.int .i64 c,.agg #[.int .i64 (p.1:Int),sv],.pointer (some ⟨H+1,0,none⟩),.pointer (some ⟨H+4,0,none⟩),.pointer (some ⟨H,0,none⟩),.pointer (some ⟨H+5,0,none⟩),.pointer (some ⟨H+2,0,none⟩)] w (VC H mm s O e.op (Sets.Aa e.set 0) (Sets.Aa e.set 1) (Sets.Aa e.set 2) (Sets.Aa e.set 3) e.lo e.hi e.group av ov w (visit ((tx s O).parses t) (clear (Ap e)) e.lo e.hi u c p z)):=by
 have s8:counted e.lo e.hi=true:=by
  obtain⟨o,p,l,h,g,args⟩:=e;simp only[Re.op]at o5;unfold gok at a9;simp only[Bool.and_eq_true]at a9;have:=a9.1.2.1;rw[if_pos o5]at this;exact this
 obtain⟨q1,q2,q3⟩:=Ew s8;have t5:gok k t=true:=by
  obtain⟨o,p,l,h,g,args⟩:=e;simp only[Re.args]at d9;unfold gok at a9;simp only[Bool.and_eq_true]at a9;exact Bk a9.2 (by rw[d9];simp)
 have p3:=qh (fun sv l W (hW:qw W0 W) (h:Al W sv l) (hl4:l.length<=4096)=>cleared_any k hk 101 e av sv l W (by omega) a9 m9 (hl.stays hW) h hl4 (o8.stays hW));have h0:=hl;rw[d9]at h0;obtain⟨ta,tc,D3,rfl,⟨B4,B5⟩,i2⟩:=h0.opened;have HO:=qh i2;have y0:=qh (fun v sv i l mm w=>hp t v sv i l mm w u4 t5);have f7:=qh (Dd (tx s O) t);have t9:(tx s O).s.length=s.size:=Ce s;rw[t9]at f7;have v6:=qh q3;have m2:=qh (Ef (Ap e));have m3:=qh (fun l (h:SpOk s.size l)=>Pt (Ap e) h);have p8:=qh hk;have y6:=qh A3;have B9:=qh (i2.fit t (by simp));have r6:=qh o8;have v8:=qh t6;have HH:=qh hH;unfold Ac at p3;clear hl h0 i2 hp u4 u5 a9 m9 s8 t5 t9 d9 o5 q3 o8 t6 hH;generalize clear (Ap e)=clr at*;generalize e.op=o at*;generalize e.lo=lo at*;generalize e.hi=hi at*;generalize e.group=g at*;generalize Sets.Aa e.set 0=x0 at*;generalize Sets.Aa e.set 1=x1 at*;generalize Sets.Aa e.set 2=x2 at*;generalize Sets.Aa e.set 3=x3 at*;simp only[List.length_singleton]at*;intro u
 induction u with
 | zero=>intro c p sv z ov w U h2;omega
 |succ u ih=>
  intro c p sv z ov w C7 t2 C9 C5 C6 u7 i5 m0 o7 i4 o6;have IH:=qh ih;clear ih;obtain⟨C,hC⟩:∃C,norm lo hi c=C:=⟨_,rfl⟩;obtain⟨R,hR⟩:∃R,visit ((tx s O).parses t) clr lo hi (u+1) c p z=R:=⟨_,rfl⟩;rw[hR];have HR:Hid (R=if (C,p)∈z.1 then some z else if most<z.1.length+1 then none else ((if hi= -1\/C<hi then ((tx s O).parses t p.1 (clr p.2)).bind fun l=>l.foldlM (fun E q=>if p.1<q.1\/C<lo then visit ((tx s O).parses t) clr lo hi u (C+1) q E else some E) (z.1++ [(C,p)],z.2) else some (z.1++ [(C,p)],z.2))).map fun E=>(E.1,if lo<=C then E.2++ [p] else E.2)):=by
   show _=_;rw[<- hR,<-hC];rfl
  clear hR;obtain⟨pa,pc,rfl⟩:=m0.shape;obtain⟨oa,oc,rfl⟩:=i5.out.2.form;obtain⟨r,d⟩:=p;simp only at*;have j1:=qh i5;have y5:=qh m0;have o0:=qh o7;have m5:=qh i4;have r7:=qh u7;have B3:=m0.len.2;have C2:=i5.lt;have e6:Hid (PFit (r,d)):=pok_fit (n:=s.size) (k:=k) (i:=0) ⟨Nat.zero_le _,o6,o7,i4⟩ y6.o p8.o;have z9:0<=C/\C<=65:=by rw[<- hC];unfold norm;split <;> omega
  have p5:Hid (hi= -1->C<=64):=fun h=>by rw[<- hC];unfold norm;rw[if_pos h];omega
  have h5:=i5.box;have b5:w.cell? ⟨H+1,5,none⟩=some (.int .i64 lo):=by rw[qc h5];rfl
  have b6:w.cell? ⟨H+1,6,none⟩=some (.int .i64 hi):=by rw[qc h5];rfl
  have L:=qh (qb w (.cells #[.int .i64 (r:Int),.slice pa d.length pc] 119));have z2:=upc L.o b5;have z3:=upc L.o b6;have j4:=qh (heap_alloc_new w (.cells #[.int .i64 (r:Int),.slice pa d.length pc] 119));have p4:=qh hC;clear i5 m0 o7 i4 u7 hC h5 b5 b6;go_enter func204,ntmps204
  go_upto_if 14 with fail
  go_cut [0] (fun s0 wx=>s0=.int .i64 C/\wx=w.alloc (.cells #[.int .i64 (r:Int),.slice pa d.length pc] 119))
  case first=>
   by_cases U:hi= -1
   ·subst U
    have HT:Hid (min c lo=C):=by show _=_;rw[<- p4.o];unfold norm;rw[if_pos rfl]
    go_wp2_with fail
    all_goals go_meet
    all_goals exact⟨by rw[<- HT.o],rfl⟩
   ·have hb:(hi== -1)=false:=by simp[U]
    have HT:Hid (C=c):=by show _=_;rw[<- p4.o];unfold norm;rw[if_neg U]
    go_wp2_with fail
    all_goals go_meet
    all_goals exact⟨by rw[HT.o],rfl⟩
  case rest=>
  obtain⟨rfl,rfl⟩:=hcut;clear z2 z3;have n6:(w.alloc (.cells #[.int .i64 (r:Int),.slice pa d.length pc] 119)).heap.size=w.heap.size+1:=by simp
  have g8:=qh n6;have P:=qh (j1.o.stays L.o);have g6:=qh (y5.o.stays L.o);have r8:=qh (r7.o.trans (L.o.mono r7.o.size));have n8:=qh (key_any (r,d) (.slice pa d.length pc) (w.alloc (.cells #[.int .i64 (r:Int),.slice pa d.length pc] 119)) g6.o e6.o.1 e6.o.2.1 e6.o.2.2 (r6.o.stays r8.o));have b0:=qh (key_sit (c:=C) e6.o (by omega) (by omega));unfold sitVal at b0;obtain⟨K,hK⟩:∃K:ByteArray,(⟨(Bl (r,d)).toArray⟩:ByteArray)=K:=⟨_,rfl⟩;rw[hK]at n8 b0;have u0:(w.alloc (.cells #[.int .i64 (r:Int),.slice pa d.length pc] 119)).cell? ⟨w.heap.size,0,none⟩=some (.int .i64 (r:Int)):=by rw[qc j4.o];rfl
  have u1:(w.alloc (.cells #[.int .i64 (r:Int),.slice pa d.length pc] 119)).cell? ⟨w.heap.size,1,none⟩=some (.slice pa d.length pc):=by rw[qc j4.o];rfl
  clear n6 hK;generalize w.alloc (.cells #[.int .i64 (r:Int),.slice pa d.length pc] 119)=w1 at*;obtain⟨D,n3,i7⟩:=P.o.map;have b7:=qh i7;have f8:=qh n3;clear n3 i7;by_cases hin:(C,(r,d))∈z.1
  ·have g4:Hid (R=some z):=by show _=_;rw[HR.o,if_pos hin]
   have n9:Hid (∀c:Bool,D.atKey (Fv C (r,d)) (.lit (.bool false))=.lit (.bool c)->c=true):=fun c hc=>by
    have h2:=(b7.o.2.1 (C,(r,d)) ⟨by show 0<=C;omega,by show C<=4096;omega,e6.o⟩).1;simp only at h2;rw[h2,decide_eq_true hin]at hc;injection hc with hc;injection hc with hc;exact hc.symm
   clear hin HR;go_wp2_with (first
    | (go_at_call 203
       (refine n8.o.mono ?_);rintro e2 w2 ⟨rfl,a8⟩;have B8:=qh a8;have M:qw w1 (w2.alloc (.cells #[.int .i64 C,.string K] 258)):=a8.alloc a8.size _;have b9:=qh M;have a2:=P.o.stays M;have j0:=qh (Cq f8.o (Chg.of (C:=fun _=>False) M) (fun h=>h));have c2:(w2.alloc (.cells #[.int .i64 C,.string K] 258)).cell? ⟨H+4,0,none⟩=some (.map (some (H+3))):=by rw[qc a2.sn];rfl
       clear a8 M a2)
    | (at_lookup
       refine Da _ rfl _ _ 255 rfl 258 4 Xg underlying255 underlying4 (zeroB _) (H+3) z.1.length D rfl j0.o _ _ rfl b0.o ?_;intro c h4;obtain rfl:=n9.o c h4;clear h4))
   go_end0;rw[g4.o];exact⟨⟨rfl,_,P.o.stays b9.o,Near.refl _ _⟩,(Chg.of L.o).trans (Chg.of (C:=RC H _) b9.o) (fun _ _ h=>h)⟩
  ·have g4:Hid (R=if most<z.1.length+1 then none else ((if hi= -1\/C<hi then ((tx s O).parses t r (clr d)).bind fun l=>l.foldlM (fun E q=>if r<q.1\/C<lo then visit ((tx s O).parses t) clr lo hi u (C+1) q E else some E) (z.1++ [(C,(r,d))],z.2) else some (z.1++ [(C,(r,d))],z.2))).map fun E=>(E.1,if lo<=C then E.2++ [(r,d)] else E.2)):=by show _=_;rw[HR.o,if_neg hin]
   have r2:Hid (SFit (C,(r,d))):=⟨by show 0<=C;omega,by show C<=4096;omega,e6.o⟩;have n9:Hid (∀c:Bool,D.atKey (Fv C (r,d)) (.lit (.bool false))=.lit (.bool c)->c=false):=fun c hc=>by
    have h2:=(b7.o.2.1 (C,(r,d)) r2.o).1;simp only at h2;rw[h2,decide_eq_false hin]at hc;injection hc with hc;injection hc with hc;exact hc.symm
   have v7:=qh hin;have i1:z.1.length<maxLen:=by unfold most at t2;unfold maxLen;omega
   clear hin HR
   go_upto_if 30 with (first
    | (go_at_call 203
       (refine n8.o.mono ?_);rintro e2 w2 ⟨rfl,a8⟩;have M:qw w1 (w2.alloc (.cells #[.int .i64 C,.string K] 258)):=a8.alloc a8.size _;have b9:=qh M;have a2:=P.o.stays M;have j0:=qh (Cq f8.o (Chg.of (C:=fun _=>False) M) (fun h=>h));have c2:(w2.alloc (.cells #[.int .i64 C,.string K] 258)).cell? ⟨H+4,0,none⟩=some (.map (some (H+3))):=by rw[qc a2.sn];rfl
       have q9:=qh a2;clear a8 M a2)
    | (at_lookup
       refine Da _ rfl _ _ 255 rfl 258 4 Xg underlying255 underlying4 (zeroB _) (H+3) z.1.length D rfl j0.o _ _ rfl b0.o ?_;intro c h4;obtain rfl:=n9.o c h4;clear h4)
    | (at_mapUpdate
       refine wpList_mapUpdate_own _ rfl _ _ _ 255 rfl 258 4 Xg underlying255 (plainElem Tryz.prog 4) (H+3) z.1.length D rfl j0.o i1 _ _ (Fv C (r,d)) rfl rfl b0.o (.lit (.bool true)) [] (plainElem_bool underlying4 true) ?_;intro X o4 t4;have o2:Chg (fun b=>b=H+3) (w2.alloc (.cells #[.int .i64 C,.string K] 258)) X:=(Chg.grown t4).mono (fun k _ e=>by cases e;rfl);have m6:=qh (b7.o.put (World.ownsMap.tidy f8.o Xg) (C,(r,d)) r2.o v7.o);have i6:=q9.o.put o2 o4 m6.o;have T:=qh i6;have x4:=qh o4;have c4:X.cell? ⟨H+4,0,none⟩=some (.map (some (H+3))):=by rw[qc i6.sn];rfl
       have b2:Hid (Chg (RC H (.slice oa z.2.length oc)) w1 X):=(Chg.of (C:=RC H _) b9.o).trans o2 (fun k _ e=>.inr (.inl e));have r5:Hid (Maps.size (D.put (Fv C (r,d)) (.lit (.bool true)))=z.1.length+1):=by have:=m6.o.2.2.1;rw[List.length_append]at this;exact this
       clear o4 t4 o2 i6)
    | (at_len
       refine wpList_len_own _ rfl _ 255 rfl 258 4 underlying255 (plainElem Tryz.prog 4) (H+3) (z.1.length+1) _ rfl x4.o ?_;rw[r5.o]))
   have q0:Hid (Near w1.heap.size (.slice oa z.2.length oc) (.slice oa z.2.length oc)):=Near.refl _ _;by_cases hbig:most<z.1.length+1
   ·have g3:Hid (R=none):=by show _=_;rw[g4.o,if_pos hbig]
    have A0:(4096:Int)< (z.1.length:Int)+1:=by unfold most at hbig;omega
    clear hbig;go_wp2_with fail
    refine⟨rfl,?_⟩;rw[g3.o];exact⟨rfl,(Chg.of L.o).trans b2.o (fun _ _ h=>h)⟩
   ·have A0:¬(4096:Int)< (z.1.length:Int)+1:=by unfold most at hbig;omega
    have g5:Hid (R=((if hi= -1\/C<hi then ((tx s O).parses t r (clr d)).bind fun l=>l.foldlM (fun E q=>if r<q.1\/C<lo then visit ((tx s O).parses t) clr lo hi u (C+1) q E else some E) (z.1++ [(C,(r,d))],z.2) else some (z.1++ [(C,(r,d))],z.2))).map fun E=>(E.1,if lo<=C then E.2++ [(r,d)] else E.2)):=by show _=_;rw[g4.o,if_neg hbig]
    have p1:Hid (z.1.length+1<=most):=by show _<=_;omega
    clear hbig g4;obtain⟨G,hG⟩:∃G,decide (hi= -1\/C<hi)=G:=⟨_,rfl⟩;have HG:=qh hG;obtain⟨-, -, -, -, -,b5,b6, -, -, -⟩:=T.o.cells;clear hG
    go_upto_region 8 with fail
    go_cut [41] (fun A8 wx=>A8=.bool G/\wx=X)
    case first=>
     by_cases g1:hi= -1
     ·  have HT:Hid (G=true):=by show _=_;rw[<- HG.o,decide_eq_true_eq];exact .inl g1
        subst g1;go_wp2_with fail
        all_goals go_meet
        all_goals exact⟨by rw[HT.o],rfl⟩
     ·  have C4:(hi== -1)=false:=by simp[g1]
        by_cases g2:C<hi
        ·have HT:Hid (G=true):=by show _=_;rw[<- HG.o,decide_eq_true_eq];exact .inr g2
         clear g1;go_wp2_with fail
         all_goals go_meet
         all_goals exact⟨by rw[HT.o],rfl⟩
        ·have HT:Hid (G=false):=by show _=_;rw[<- HG.o,decide_eq_false_iff_not];omega
         clear g1;go_wp2_with fail
         all_goals go_meet
         all_goals exact⟨by rw[HT.o],rfl⟩
    case rest=>
    obtain⟨rfl,rfl⟩:=hcut
    rename World=>X
    have c9:Hid (R=((if G=true then ((tx s O).parses t r (clr d)).bind fun l=>l.foldlM (fun E q=>if r<q.1\/C<lo then visit ((tx s O).parses t) clr lo hi u (C+1) q E else some E) (z.1++ [(C,(r,d))],z.2) else some (z.1++ [(C,(r,d))],z.2))).map fun E=>(E.1,if lo<=C then E.2++ [(r,d)] else E.2)):=by show _=_;rw[g5.o,<-HG.o];simp only[decide_eq_true_eq]
    have v3:Hid (G=true->C<=64):=fun h=>by
     have U:=HG.o;rw[h,decide_eq_true_eq]at U;have:=v6.o;have hc:=p5.o;omega
    clear g5 b5 b6 c2 c4
    go_upto_if 41 with fail
    go_cut [] (fun wx=>(R=none/\False)\/∃(A:RSt) (N:Value),R=some (A.1,if lo<=C then A.2++ [(r,d)] else A.2)/\A.2.length<=4096/\RS wx H mm s O o x0 x1 x2 x3 lo hi g (.slice ta 1 tc) N A/\Near w1.heap.size (.slice oa z.2.length oc) N/\Chg (RC H (.slice oa z.2.length oc)) w1 wx)
    case first=>
     cases G with
     |  false=>
        go_wp2_with fail
        go_meet
        exact .inr ⟨(z.1++ [(C,(r,d))],z.2),_,by rw[c9.o];rfl,by simp only;unfold most at t2;omega,T.o,q0.o,b2.o⟩
     |  true=>
        have a4:=qh (r8.o.trans (P.o.belowB b2.o HH.o));have j5:=qh ((b2.o.block w.heap.size (by rw[g8.o];exact Nat.lt_succ_self _) (fun e=>by
         have U:=j1.o.behind ql ;exact U e)).trans j4.o)
        have r3:=qh (g6.o.chg b2.o P.o.noSp);have f0:X.cell? ⟨w.heap.size,0,none⟩=some (.int .i64 (r:Int)):=by rw[qc j5.o];rfl
        have f1:X.cell? ⟨w.heap.size,1,none⟩=some (.slice pa d.length pc):=by rw[qc j5.o];rfl
        obtain⟨t',tv,b,off,ht,hv,e1,⟨k0,k1,k2,k3,k4,k5,k6,k7,k8⟩,o3,t3,hm⟩:=(HO.o.stays a4.o).at (j:=0) (by simp);obtain rfl:t=t':=by simpa using ht
        simp only[Nat.zero_mul,Nat.add_zero]at k0 k1 k2 k3 k4 k5 k6 k7 k8;subst e1;obtain⟨l0,l1,l2,l3,l4,l5,l6,l7,l8, -⟩:=T.o.cells;have l9:X.cell? ⟨H,0,none⟩=some (.pointer (some ⟨mm,0,none⟩)):=by rw[qc T.o.mt];rfl
        have f9:=qh (fun sv W (hW:qw X W) (h:Al W sv (clr d))=>y0.o tv sv r (clr d) mm W t3 (o3.stays hW) h (by rw[m2.o];exact o0.o) (m3.o d m5.o) o6 (v8.o.stays (a4.o.trans (hW.mono a4.o.size))) (r6.o.stays (a4.o.trans (hW.mono a4.o.size))));have p2:=qh (fun W (hW:qw X W)=>p3.o (.slice pa d.length pc) d W (a4.o.trans (hW.mono a4.o.size)) (r3.o.stays hW) (by have:=o0.o;have:=p8.o;omega));unfold Ac at f9;obtain⟨u8,u9,rfl⟩:=o3.shape;have e7:=qh (fun W (hw:qw X W)=>(And.intro (upc hw l0) (And.intro (upc hw l1) (And.intro (upc hw l2) (And.intro (upc hw l3) (And.intro (upc hw l4) (And.intro (upc hw l5) (And.intro (upc hw l6) (And.intro (upc hw l7) (And.intro (upc hw l8) (And.intro (upc hw l9) (And.intro (upc hw f0) (And.intro (upc hw f1) (And.intro (upc hw k0) (And.intro (upc hw k1) (And.intro (upc hw k2) (And.intro (upc hw k3) (And.intro (upc hw k4) (And.intro (upc hw k5) (And.intro (upc hw k6) (And.intro (upc hw k7) (upc hw k8))))))))))))))))))))));clear ht hv o3 t3 hm;cases hf:(tx s O).parses t r (clr d) with
        |none=>
         have g3:Hid (R=none):=by show _=_;rw[c9.o,if_pos rfl,hf];rfl
         rw[hf]at f9;clear hf;go_wp2_with fail
         refine Code.wp_mono (Q:=fun e a J=>(e=Exit.panic [{v:=Value.iface 184 (.agg #[]),recovered:=false}]/\a.defers= [])/\qw X J) ?_ ?_
         ·  rintro e a J ⟨⟨rfl,hd⟩,hb⟩
            refine⟨hd,?_⟩;rw[g3.o];exact⟨rfl,((Chg.of L.o).trans b2.o (fun _ _ h=>h)).trans (Chg.of (C:=fun _=>False) hb) (fun _ _ h=>h.elim)⟩
         refine wp_region_held_drew (S:=(fun J=>J.cell? ⟨H+1,0,none⟩=some (.int .i64 o)/\J.cell? ⟨H+1,1,none⟩=some (.int .u64 x0)/\J.cell? ⟨H+1,2,none⟩=some (.int .u64 x1)/\J.cell? ⟨H+1,3,none⟩=some (.int .u64 x2)/\J.cell? ⟨H+1,4,none⟩=some (.int .u64 x3)/\J.cell? ⟨H+1,5,none⟩=some (.int .i64 lo)/\J.cell? ⟨H+1,6,none⟩=some (.int .i64 hi)/\J.cell? ⟨H+1,7,none⟩=some (.int .i64 g)/\J.cell? ⟨H+1,8,none⟩=some (.slice (some ⟨b,off,none⟩) 1 tc)/\J.cell? ⟨H,0,none⟩=some (.pointer (some ⟨mm,0,none⟩))/\J.cell? ⟨w.heap.size,0,none⟩=some (.int .i64 (r:Int))/\J.cell? ⟨w.heap.size,1,none⟩=some (.slice pa d.length pc)/\tS J b off t u8 u9)) (by kernel_rfl) (e7.o _ ((Below.refl _ X).drew)) (fun g9=>?_);refine wpAnyH_take (i:=0) (v:=?_) rfl (by kernel_rfl) (by kernel_rfl) (by kernel_rfl) (fun _ _ _ h=>h) (Or.inl ⟨by rfl,?_⟩) (by assumption) ?_;rotate_left
         ·  intro w B
            try dsimp only at B
            go_simp;try with_reducible rfl
         try simp only[Act.put,yT,y9,yS]
         refine wpAnyH_take (i:=1) (v:=?_) rfl (by kernel_rfl) (by kernel_rfl) (by kernel_rfl) (fun _ _ _ h=>h) (Or.inl ⟨by rfl,?_⟩) (by assumption) ?_;rotate_left
         ·  intro w B
            try dsimp only at B
            go_simp;try with_reducible rfl
         try simp only[Act.put,yT,y9,yS]
         refine wpAnyH_take (i:=2) (v:=?_) rfl (by kernel_rfl) (by kernel_rfl) (by kernel_rfl) (fun _ _ _ h=>h) (Or.inl ⟨by rfl,?_⟩) (by assumption) ?_;rotate_left
         ·  intro w B
            try dsimp only at B
            go_simp;try with_reducible rfl
         try simp only[Act.put,yT,y9,yS]
         refine wpAnyH_take (i:=3) (v:=?_) rfl (by kernel_rfl) (by kernel_rfl) (by kernel_rfl) (fun _ _ _ h=>h) (Or.inl ⟨by rfl,?_⟩) (by assumption) ?_;rotate_left
         ·  intro w B
            try dsimp only at B
            go_simp;try with_reducible rfl
         try simp only[Act.put,yT,y9,yS]
         refine wpAnyH_take (i:=4) (v:=?_) rfl (by kernel_rfl) (by kernel_rfl) (by kernel_rfl) (fun _ _ _ h=>h) (Or.inl ⟨by rfl,?_⟩) (by assumption) ?_;rotate_left
         ·  intro w B
            try dsimp only at B
            go_simp;try with_reducible rfl
         try simp only[Act.put,yT,y9,yS]
         refine wpAnyH_take (i:=5) (v:=?_) rfl (by kernel_rfl) (by kernel_rfl) (by kernel_rfl) (fun _ _ _ h=>h) (Or.inl ⟨by rfl,?_⟩) (by assumption) ?_;rotate_left
         ·  intro w B
            try dsimp only at B
            go_simp;try with_reducible rfl
         try simp only[Act.put,yT,y9,yS]
         refine wpAnyH_take (i:=6) (v:=?_) rfl (by kernel_rfl) (by kernel_rfl) (by kernel_rfl) (fun _ _ _ h=>h) (Or.inl ⟨by rfl,?_⟩) (by assumption) ?_;rotate_left
         ·  intro w B
            try dsimp only at B
            go_simp;try with_reducible rfl
         try simp only[Act.put,yT,y9,yS]
         refine wpAnyH_take (i:=7) (v:=?_) rfl (by kernel_rfl) (by kernel_rfl) (by kernel_rfl) (fun _ _ _ h=>h) (Or.inl ⟨by rfl,?_⟩) (by assumption) ?_;rotate_left
         ·  intro w B
            try dsimp only at B
            go_simp;try with_reducible rfl
         try simp only[Act.put,yT,y9,yS]
         refine wpAnyH_take (i:=8) (v:=?_) rfl (by kernel_rfl) (by kernel_rfl) (by kernel_rfl) (fun _ _ _ h=>h) (Or.inl ⟨by rfl,?_⟩) (by assumption) ?_;rotate_left
         ·  intro w B
            try dsimp only at B
            go_simp;try with_reducible rfl
         try simp only[Act.put,yT,y9,yS]
         refine wpAnyH_take (i:=9) (v:=?_) rfl (by kernel_rfl) (by kernel_rfl) (by kernel_rfl) (fun _ _ _ h=>h) (Or.inl ⟨by rfl,?_⟩) (by assumption) ?_;rotate_left
         ·  intro w B
            try dsimp only at B
            go_simp;try with_reducible rfl
         try simp only[Act.put,yT,y9,yS]
         refine wpAnyH_take (i:=13) (v:=?_) rfl (by kernel_rfl) (by kernel_rfl) (by kernel_rfl) (fun _ _ _ h=>h) (Or.inl ⟨by rfl,?_⟩) (by assumption) ?_;rotate_left
         ·  intro w B
            try dsimp only at B
            go_simp;try with_reducible rfl
         try simp only[Act.put,yT,y9,yS]
         refine wpAnyH_ready (rs:= [10]) (by kernel_rfl) (by simp) ?_;refine AllReadyH.cons rfl (fun K hK=>?_) AllReadyH.nil;go_simp;refine (p2.o _ (Below.refl _ X).drew).mono ?_;rintro e w6 ⟨⟨cv,rfl,b8⟩,e8⟩;have a5:Hid (qw X w6):=Ab ((Below.refl _ X).drew) e8;have n7:=qh b8;obtain⟨z4,z5,rfl⟩:=b8.shape;clear b8 e8 g9;refine hK.out _ _ (e7.o _ a5.o) (fun g9=>?_);try simp only[Act.put,yT,y9,yS]
         refine wpAnyH_ready (rs:= [11]) (by kernel_rfl) (by simp) ?_;refine AllReadyH.cons rfl (fun K2 C3=>?_) AllReadyH.nil;go_simp;refine (f9.o _ _ a5.o n7.o).mono ?_;rintro e w7 ⟨h7,j6⟩;obtain rfl:e=.panicked [{v:=Value.iface 184 (.agg #[]),recovered:=false}]:=h7;exact⟨rfl,Ab a5.o j6⟩
        |some m=>
         have x5:=qh (Ej _ _ _ _ _ hf);have x6:=qh (fun q (hq:q∈m)=>(f7.o r (clr d) m o6 (m3.o d m5.o) hf q hq));obtain⟨RF,o1⟩:∃x,m.foldlM (fun E q=>if r<q.1\/C<lo then visit ((tx s O).parses t) clr lo hi u (C+1) q E else some E) (z.1++ [(C,(r,d))],z.2)=x:=⟨_,rfl⟩;have q7:Hid (R=RF.map fun E=>(E.1,if lo<=C then E.2++ [(r,d)] else E.2)):=by show _=_;rw[c9.o,if_pos rfl,hf,Option.bind_some,o1]
         have q8:=qh o1;rw[hf]at f9;clear hf o1 c9;go_wp2_with fail
         go_region_held3 (fun J=>J.cell? ⟨H+1,0,none⟩=some (.int .i64 o)/\J.cell? ⟨H+1,1,none⟩=some (.int .u64 x0)/\J.cell? ⟨H+1,2,none⟩=some (.int .u64 x1)/\J.cell? ⟨H+1,3,none⟩=some (.int .u64 x2)/\J.cell? ⟨H+1,4,none⟩=some (.int .u64 x3)/\J.cell? ⟨H+1,5,none⟩=some (.int .i64 lo)/\J.cell? ⟨H+1,6,none⟩=some (.int .i64 hi)/\J.cell? ⟨H+1,7,none⟩=some (.int .i64 g)/\J.cell? ⟨H+1,8,none⟩=some (.slice (some ⟨b,off,none⟩) 1 tc)/\J.cell? ⟨H,0,none⟩=some (.pointer (some ⟨mm,0,none⟩))/\J.cell? ⟨w.heap.size,0,none⟩=some (.int .i64 (r:Int))/\J.cell? ⟨w.heap.size,1,none⟩=some (.slice pa d.length pc)/\tS J b off t u8 u9) (first | exact e7.o _ (Below.refl _ _) | exact e7.o _ ((Below.refl _ X).drew) | exact e7.o _ e4.o | exact e7.o _ a5.o)
            (first
            | (go_at_call 205
               (refine (p2.o _ (by first | exact (Below.refl _ X).drew | exact Below.refl _ X)).mono ?_)
               rintro e w6 ⟨⟨cv,rfl,b8⟩,e8⟩;have a5:Hid (qw X w6):=(by first | exact Ab ((Below.refl _ X).drew) e8 | exact e8)
               have n7:=qh b8;obtain⟨z4,z5,rfl⟩:=b8.shape;clear b8 e8)
            | (go_at_call 126
               (refine (f9.o _ _ a5.o n7.o).mono ?_);rintro e w7 ⟨h7,j6⟩;obtain⟨mv,rfl,j8⟩:=h7;have e4:=qh (Ab a5.o j6);have p9:Hid (∀b,mv.ownBlock=some b->X.heap.size<=b):=(fun b hb=>Nat.le_trans a5.o.size (j8.lt b hb).1);have x7:=qh j8.lies;obtain⟨ma,mc,rfl⟩:=j8.form;clear j8 j6))
         go_wp2_with fail
         have s5:w.heap.size<X.heap.size:=(qd j5.o);have r0:=qh (T.o.stays e4.o);have v2:=qh (b2.o.trans (Chg.of (C:=fun _=>False) e4.o) (fun _ _ h=>h.elim));have z1:=qh ((e4.o.block _ s5).trans j5.o);have z0:=qh (a4.o.trans (e4.o.mono a4.o.size));have p0:Hid (Apart (.slice ma m.length mc) (.slice oa z.2.length oc)):=Apart.new p9.o (fun b hb=>(T.o.out.2.lt b hb).2);have v4:=qh T.o.lt;have B0:=qh e4.o.size;have B1:C<=64:=v3.o (by first | rfl | exact True.intro)
         have C1:0<=C:=z9.1;have C8:(m.length:Int)<=4096:=by have:=x5.o;omega
         have p7:Hid (most+1<=u+(z.1++ [(C,(r,d))]).length/\(z.1++ [(C,(r,d))]).length<=most/\z.2.length+1<=(z.1++ [(C,(r,d))]).length):=by show _/\_/\_;rw[List.length_append,List.length_singleton];have:=p1.o;omega
         clear l0 l1 l2 l3 l4 l5 l6 l7 l8 l9 k0 k1 k2 k3 k4 k5 k6 k7 k8 f0 f1 u0 u1 i1
         go_loopw [55] (fun i wr=>∃(j:Nat) (A:RSt) (N:Value),j<=m.length/\i=.int .i64 j/\Hid ((m.drop j).foldlM (fun E q=>if r<q.1\/C<lo then visit ((tx s O).parses t) clr lo hi u (C+1) q E else some E) A=RF)/\Hid (most+1<=u+A.1.length/\A.1.length<=most/\A.2.length+1<=A.1.length)/\RS wr H mm s O o x0 x1 x2 x3 lo hi g (.slice (some ⟨b,off,none⟩) 1 tc) N A/\PLies wr (.slice ma m.length mc) m/\Apart (.slice ma m.length mc) N/\Near w1.heap.size (.slice oa z.2.length oc) N/\Chg (RC H (.slice oa z.2.length oc)) w1 wr/\wr.heap[w.heap.size]? =some (.cells #[.int .i64 (r:Int),.slice pa d.length pc] 119 (0,0))/\qw W0 wr/\w7.heap.size<=wr.heap.size) (fun i _=>m.length-(intOf i).toNat)
         case atStart=>exact⟨0,(z.1++ [(C,(r,d))],z.2),_,Nat.zero_le _,rfl,by rw[List.drop_zero];exact q8,p7,r0.o,x7.o,p0.o,q0.o,v2.o,z1.o,z0.o,ql⟩
         case round=>
            obtain⟨j,A,N,hj,rfl,p6,a6,b1,e0,h3,e9,h6,i9,o9,i8⟩:=hrel;have a7:=qh b1;have m4:=qh e0;have f4:=qh h3;have a0:=qh e9;have f6:=qh h6;have s3:=qh i9;have g7:=qh o9;have m7:=qh i8;have m8:w.heap.size<wr.heap.size:=(qd i9);by_cases hjt:j<m.length
            ·have A2:(j:Int)< (m.length:Int):=by omega
             have hz:m[j]? =some m[j]:=List.getElem?_eq_getElem hjt;obtain⟨mb,B7,yv,em,y1,y2,m1⟩:=e0.at hz;obtain⟨ya,yc,rfl⟩:=m1.shape;have D1:=m1.len.2;have a3:=x6.o _ (List.getElem_mem hjt);have b4:Hid ((if r<m[j].1\/C<lo then visit ((tx s O).parses t) clr lo hi u (C+1) m[j] A else some A).bind (fun s2=>(m.drop (j+1)).foldlM (fun E q=>if r<q.1\/C<lo then visit ((tx s O).parses t) clr lo hi u (C+1) q E else some E) s2)=RF):=by
                show _=_;have U:=p6.out;rw[Ga hz,List.foldlM_cons]at U;exact U
             have I:=qh (qb wr (.cells #[.int .i64 (m[j].1:Int),.slice ya m[j].2.length yc] 119));have j2:=qh (IH.o (C+1) m[j] (.slice ya m[j].2.length yc) A N _ a6.out.1 a6.out.2.1 (by have:=a6.out.2.2;omega) (by omega) (by omega) (g7.o.trans (I.o.mono g7.o.size)) (a7.o.stays I.o) (m1.stays I.o) (by have U:=a3.2.2.1;rw[m2.o]at U;exact U.trans o0.o) a3.2.2.2 a3.2.1);have D0:r<=m[j].1:=a3.1;have B6:(m[j].1:Int)<=(s.size:Int):=by have:=a3.2.1;omega
             have j3:=qh (fun s2 (h:visit ((tx s O).parses t) clr lo hi u (C+1) m[j] A=some s2)=>And.intro (Ks lo hi u (C+1) m[j] A s2 a6.out.2.1 h) (Hw lo hi 1 u 1 (C+1) m[j] A s2 a6.out.2.2 h));cases em
             have f0:wr.cell? ⟨w.heap.size,0,none⟩=some (.int .i64 (r:Int)):=by rw[qc i9];rfl
             have C0:=upc I.o f0;have D2:=upc I.o b1.cells.d5;have v5:wr.cell? ⟨H+5,0,none⟩=some (.func (.func 204) #[] #[.pointer (some ⟨H+1,0,none⟩),.pointer (some ⟨H+4,0,none⟩),.pointer (some ⟨H,0,none⟩),.pointer (some ⟨H+5,0,none⟩),.pointer (some ⟨H+2,0,none⟩)]):=by rw[qc b1.vt];rfl
             have D4:=upc I.o v5;clear hz m1 a3 b1 e0 h3 e9 h6 i9 o9 i8 f0 v5;generalize m[j]=y at*;obtain⟨ye,v0⟩:=y;simp only at*;obtain⟨Y,hY⟩:∃Y,decide (r<ye\/C<lo)=Y:=⟨_,rfl⟩;have HY:=qh hY;clear hY
             go_upto_region 12 with fail
             go_cut [69] (fun A9 wx=>A9=.bool Y/\wx=wr.alloc (.cells #[.int .i64 (ye:Int),.slice ya v0.length yc] 119))
             case first=>
                by_cases g1:r<ye
                ·have HT:Hid (Y=true):=by show _=_;rw[<- HY.o,decide_eq_true_eq];exact .inl g1
                 have z7:(r:Int)< (ye:Int):=by omega
                 go_wp2_with fail
                 all_goals go_meet
                 all_goals exact⟨by rw[HT.o],rfl⟩
                ·have z7:¬(r:Int)< (ye:Int):=by omega
                 by_cases g2:C<lo
                 ·have HT:Hid (Y=true):=by show _=_;rw[<- HY.o,decide_eq_true_eq];exact .inr g2
                  go_wp2_with fail
                  all_goals go_meet
                  all_goals exact⟨by rw[HT.o],rfl⟩
                 ·have HT:Hid (Y=false):=by show _=_;rw[<- HY.o,decide_eq_false_iff_not];omega
                  go_wp2_with fail
                  all_goals go_meet
                  all_goals exact⟨by rw[HT.o],rfl⟩
             case rest=>
             obtain⟨rfl,rfl⟩:=hcut;cases Y with
             |  true=>
                have h8:r<ye\/C<lo:=by have:=HY.o;rwa [decide_eq_true_eq]at this
                rw[if_pos h8]at b4;clear h8;cases hv:visit ((tx s O).parses t) clr lo hi u (C+1) (ye,v0) A with
                |none=>
                 rw[hv]at j2 b4;have g3:Hid (R=none):=by show _=_;rw[q7.o,<-b4.o];rfl
                 clear hv
                 go_wp2_with (go_at_call 204
                              (refine j2.o.mono ?_);rintro e w9 ⟨h9,j7⟩;obtain rfl:e=.panicked [{v:=Value.iface 184 (.agg #[]),recovered:=false}]:=h9;have b3:=qh ((f6.o.trans (Chg.of (C:=fun _=>False) I.o) (fun _ _ h=>h.elim)).trans j7 (fun k hk e=>RC.sub a0.o hk e)))
                 go_wp2_with fail
                 refine⟨rfl,?_⟩;rw[g3.o];exact⟨rfl,(Chg.of L.o).trans b3.o (fun _ _ h=>h)⟩
                |some s2=>
                 have y8:=qh (j3.o s2 hv);rw[hv]at j2 b4;clear hv j3
                 go_wp2_with (go_at_call 204
                              (refine j2.o.mono ?_);rintro e w9 ⟨h9,j7⟩;obtain⟨rfl,A7,n5,t7⟩:=h9;have b3:Hid (Chg (RC H N) wr w9):=(Chg.of (C:=RC H N) I.o).trans j7 (fun k _ e=>e);have r1:=qh n5;have q4:=qh t7;clear j7 n5 t7)
                 go_wp2_with fail
                 go_roundw
                 case rel=>
                  refine⟨j+1,s2,A7,by omega,by go_num,b4,?_,r1.o,m4.o.chg b3.o a7.o.noSp (fun b hb hC=>?_),f4.o.near q4.o (fun b hb=>?_),a0.o.trans q4.o ?_,f6.o.trans b3.o (fun k hk e=>RC.sub a0.o hk e),(b3.o.block _ m8 (fun e=>j1.o.behind ql (RC.sub a0.o (by rw[g8.o];exact Nat.lt_succ_self _) e))).trans s3.o,g7.o.trans (a7.o.belowB b3.o HH.o),Nat.le_trans m7.o b3.o.size⟩
                  ·show _/\_/\_
                   have U:=y8.o;have h2:=a6.out;exact⟨by omega,U.1.2,U.2⟩
                  ·have U:=p9.o b hb
                   have h2:=v4.o;rcases hC with e | e | e
                   · omega
                   · omega
                   · exact f4.o b hb e.symm
                  ·have U:=World.block_lt_of_cell? wr _ y1
                   cases hb
                   exact Nat.lt_of_lt_of_le U I.o.size
                  · exact Nat.le_trans f6.o.size I.o.size
                 case measure=>simp[intOf];omega
             |  false=>
                have h8:¬(r<ye\/C<lo):=by have:=HY.o;rwa [decide_eq_false_iff_not]at this
                rw[if_neg h8,Option.bind_some]at b4;clear h8;go_wp2_with fail
                go_roundw
                case rel=>exact⟨j+1,A,N,by omega,by go_num,b4,a6,a7.o.stays I.o,m4.o.stays I.o,f4.o,a0.o,f6.o.trans (Chg.of (C:=fun _=>False) I.o) (fun _ _ h=>h.elim),(I.o.block _ m8).trans s3.o,g7.o.trans (I.o.mono g7.o.size),Nat.le_trans m7.o I.o.size⟩
                case measure=>simp[intOf];omega
            ·have A2:¬(j:Int)< (m.length:Int):=by omega
             have g0:Hid (R=some (A.1,if lo<=C then A.2++ [(r,d)] else A.2)):=by
                show _=_;have U:=p6.out;rw[show j=m.length by omega,List.drop_length,List.foldlM_nil]at U;rw[q7.o,<-U];rfl
             have z8:A.2.length<=4096:=by have:=a6.out;unfold most at this;omega
             clear b1 e0 h3 e9 h6 i9 o9 i8;go_wp2_with fail
             go_meet
             exact .inr ⟨A,N,g0.o,z8,a7.o,a0.o,f6.o⟩
    case rest=>
    obtain⟨-,hF⟩ | ⟨A,N,s4,B2,e3,e9,s7⟩:=hcut
    · exact hF.elim
    rename World=>w5
    obtain⟨f2,f3,rfl⟩:=e3.out.2.form;have q6:=qh s4;have a1:=qh e3;have a0:=qh e9;have f5:=qh s7;have s6:w.heap.size<w1.heap.size:=by rw[g8.o];exact Nat.lt_succ_self _
    have r9:=qh ((f5.o.block w.heap.size s6 (fun e=>j1.o.behind ql e)).trans j4.o);have r4:=qh (g6.o.chg f5.o P.o.noSp);have f0:w5.cell? ⟨w.heap.size,0,none⟩=some (.int .i64 (r:Int)):=by rw[qc r9.o];rfl
    have f1:w5.cell? ⟨w.heap.size,1,none⟩=some (.slice pa d.length pc):=by rw[qc r9.o];rfl
    have l2:=e3.cells.d5;clear s4 e3 e9 s7 u0 u1 i1;by_cases hge:lo<=C
    ·have g0:Hid (R=some (A.1,A.2++ [(r,d)])):=by show _=_;rw[q6.o,if_pos hge]
     obtain⟨i0,A1,A4,A5,A6⟩:=info_parts No;have e5:=qh a1.o.out;have c0:=e5.o.cell;obtain⟨vs,u6,u2,u3⟩:=e5.o.2;have y3:=qh u2;have j3:=qh u6;have y4:=qh u3;have n1:A.2.length+1<=maxLen:=by unfold maxLen;omega
     have n2:(A.2.length+1)*32<=140737488355328:=by omega
     have y7:Hid (H+2+1<=w5.heap.size):=by show _<=_;have:=a1.o.lt;omega
     clear u6 u2 u3;go_wp2_with (first
        | (at_builtin
           refine Bg _ rfl _ _ 115 rfl (H+2+1) 119 i0 (.agg #[.int .i64 0,.slice none 0 0]) 2 32 underlying115 A1 A4 A5 A6 rfl (by decide) _ A.2.length (Dq A.2 vs) rfl y3.o [.int .i64 (r:Int),.slice pa d.length pc] rfl (by simp[Value.oneCell']) w5.heap.size (by simp) rfl n1 n2 y7.o ?_;intro v' w6 i3 V n4;have q5:Hid (PRow w6 (H+2+1) v' (A.2++ [(r,d)])):=PRow.more (p:=(r,d)) j3.o y4.o r4.o i3 V e5.o.2.noSp;have v1:Hid (Chg (RC H (.slice f2 A.2.length f3)) w5 w6):=V.mono (fun k _ e=>.inr (.inr e));have v9:Hid (w6.heap[H+3]? =w5.heap[H+3]?):=V.block (H+3) (by have:=a1.o.lt;omega) (fun e=>(a1.o.apart _ e.symm).2.2.2.1 rfl);have t8:¬some (H+2)=(Value.slice f2 A.2.length f3).ownBlock:=fun e=>by have:=e5.o.noOwn (H+2) e.symm;omega
           have j9:w6.heap[H+2]? =some (.cells #[.slice f2 A.2.length f3] 115):=(V.block (H+2) (qd e5.o.1) t8).trans e5.o.1;have x9:=qh j9;have c6:w6.cell? ⟨H+2,0,none⟩=some (.slice f2 A.2.length f3):=by rw[qc j9];rfl
           have z6:w6.frozen? ⟨H+2,0,none⟩=false:=by unfold World.frozen?;rw[j9];simp
           have x8:Hid (Near (w5.heap.size+1) (.slice f2 A.2.length f3) v'):=n4;obtain⟨va,vc,rfl⟩:∃va vc,v'=.slice va (A.2.length+1) vc:=by have:=q5.o.form;simpa using this
           clear i3 V n4 j9 t8))
     go_end0;rw[g0.o];have s9:Chg (RC H (.slice f2 A.2.length f3)) w5 (w6.setCell ⟨H+2,0,none⟩ (.slice va (A.2.length+1) vc)):=v1.o.trans (Chg.setCell w6 (H+2) 0 _) (fun k _ e=>.inl e);refine⟨⟨rfl,_,a1.o.list s9 (OBx.put x9.o q5.o) ((Below.heap_setCell _ _ _ _ (by show H+3≠H+2;omega)).trans v9.o),(a0.o.trans x8.o (Nat.le_succ_of_le f5.o.size)).mono L.o.size⟩,((Chg.of L.o).trans f5.o (fun _ _ h=>h)).trans s9 (fun k hk e=>RC.sub a0.o (Nat.lt_of_lt_of_le hk L.o.size) e)⟩
    ·have g0:Hid (R=some (A.1,A.2)):=by show _=_;rw[q6.o,if_neg hge]
     go_wp2_with fail
     go_end0;rw[g0.o];exact⟨⟨rfl,_,a1.o,a0.o.mono L.o.size⟩,(Chg.of L.o).trans f5.o (fun _ _ h=>h)⟩
end ReMem
namespace ReMem
open Go Go.RowKit MatchMath
theorem Cb (u:World) (a:Obj) (k:Nat) (h:u.heap.size=k):(u.alloc a).heap[k]? =some a:=by
 subst h;exact heap_alloc_new u a
theorem Ax {u:World} (a:Obj) {k:Nat} {x:Obj} (h:u.heap[k]? =some x):(u.alloc a).heap[k]? =some x:=
 ((qb u a).block k (qd h)).trans h
theorem RS.new (w:World) (H b:Nat) (m:w.heap.size=H) (s:ByteArray) (n:Bool) (o:Int) (c d e i:Nat) (lo hi g:Int) (a:Value):
  RS ((((((w.alloc (.cells #[.pointer (some ⟨b,0,none⟩)] 146)).alloc (.cells #[.int .i64 o,.int .u64 c,.int .u64 d,.int .u64 e,.int .u64 i,.int .i64 lo,.int .i64 hi,.int .i64 g,a] 28)).alloc (.cells #[.slice none 0 0] 115)).alloc (.map #[] 0)).alloc (.cells #[.map (some (H+3))] 255)).alloc (.cells #[.func (.func 204) #[] #[.pointer (some ⟨H+1,0,none⟩),.pointer (some ⟨H+4,0,none⟩),.pointer (some ⟨H,0,none⟩),.pointer (some ⟨H+5,0,none⟩),.pointer (some ⟨H+2,0,none⟩)]] 256))
   H b s n o c d e i lo hi g a (.slice none 0 0) ([],[]):=by
 subst m;refine⟨Ax _ (Ax _ (Ax _ (Ax _ (Ax _ (Cb _ _ _ rfl))))),Ax _ (Ax _ (Ax _ (Ax _ (Cb _ _ _ (by simp))))),⟨Ax _ (Ax _ (Ax _ (Cb _ _ _ (by simp)))),PRow.nil _ _⟩,⟨.map [],?_,Sc.nil⟩,Ax _ (Cb _ _ _ (by simp)),Cb _ _ _ (by simp)⟩;refine Cq (Cq ?_ (Chg.alloc (fun _=>False) _ _) (fun h=>h)) (Chg.alloc (fun _=>False) _ _) (fun h=>h);have j:=World.ownsMap_made (H:=Unit) (((w.alloc (.cells #[.pointer (some ⟨b,0,none⟩)] 146)).alloc (.cells #[.int .i64 o,.int .u64 c,.int .u64 d,.int .u64 e,.int .u64 i,.int .i64 lo,.int .i64 hi,.int .i64 g,a] 28)).alloc (.cells #[.slice none 0 0] 115)) Tryz.prog 258 (plainElem Tryz.prog 4);have l:(((w.alloc (.cells #[.pointer (some ⟨b,0,none⟩)] 146)).alloc (.cells #[.int .i64 o,.int .u64 c,.int .u64 d,.int .u64 e,.int .u64 i,.int .i64 lo,.int .i64 hi,.int .i64 g,a] 28)).alloc (.cells #[.slice none 0 0] 115)).heap.size=w.heap.size+3:=by simp
 rw[l]at j;exact j
theorem repeated_any (s:ByteArray) (d:Bool) (k n:Nat) (U:Fm s d k n) (e t:Re) (q:e.args= [t]) (C:e.op=5) (D:size t<n) (E:size e<=100) (y:gok k e=true) (r:Ag e) (x:Nat) (v S:Value) (i:Nat) (l:List Span) (w:World) (Q:Lies w v e.args) (G:Tabs w) (A:TBox w x s d) (J:Al w S l) (z:l.length=k) (B:SpOk s.size l) (hi:i<=s.size) (R:s.size<=4096) (hk:k<=4096):
  Calls Tryz.prog 171 #[.pointer (some ⟨x,0,none⟩),Ac v e,.int .i64 i,S] w (PRes w (Fu ((tx s d).parses t) (clear (Ap e)) e.lo e.hi i l)):=by
 have I:=qh (fun W ov (hW:qw w W) (hrs:RS W w.heap.size x s d e.op (Sets.Aa e.set 0) (Sets.Aa e.set 1) (Sets.Aa e.set 2) (Sets.Aa e.set 3) e.lo e.hi e.group v ov ([],[]))=>visitC_any s d k n U e t q C D E y r w.heap.size x v w Q ql G A R hk (most+1) 0 (i,l) S ([],[]) ov W (by simp) (Nat.zero_le _) ql (by omega) (by omega) hW hrs (J.stays hW) z B hi);have p:Hid (Fu ((tx s d).parses t) (clear (Ap e)) e.lo e.hi i l=(visit ((tx s d).parses t) (clear (Ap e)) e.lo e.hi (most+1) 0 (i,l) ([],[])).map (·.2)):=rfl;obtain⟨X,Y,rfl⟩:=Q.shape;obtain⟨sa,sc,rfl⟩:=J.shape;have V:=J.len.2;clear Q J z B U q C D y r G A;unfold Ac;generalize Fu ((tx s d).parses t) (clear (Ap e)) e.lo e.hi i l=RA at*;generalize clear (Ap e)=clr at*;generalize e.op=o at*;generalize e.lo=lo at*;generalize e.hi=hi' at*;generalize e.group=g at*;generalize Sets.Aa e.set 0=x0 at*;generalize Sets.Aa e.set 1=x1 at*;generalize Sets.Aa e.set 2=x2 at*;generalize Sets.Aa e.set 3=x3 at*;have a0:=@run_makeMap Tryz.prog;have a1:∀(a:Addr) (m:Mode) (fn:Fn) (O N:Array Value) (W:World),(store a (.func fn O N) m).run Tryz.prog W=stored Tryz.prog W a (.func fn O N) m:=fun a m fn O N W=>run_store Tryz.prog W a _ m rfl;go_enter func171,ntmps171;have b:=qh (RS.new w w.heap.size x rfl s d o x0 x1 x2 x3 lo hi' g (.slice X e.args.length Y));have h:=qh (((((((qb w (.cells #[.pointer (some ⟨x,0,none⟩)] 146)).alloc (by simp) (.cells #[.int .i64 o,.int .u64 x0,.int .u64 x1,.int .u64 x2,.int .u64 x3,.int .i64 lo,.int .i64 hi',.int .i64 g,.slice X e.args.length Y] 28)).alloc (by simp;omega) (.cells #[.slice none 0 0] 115)).alloc (by simp;omega) (.map #[] 0)).alloc (by simp;omega) (.cells #[.map (some (w.heap.size+3))] 255)).alloc (by simp;omega) (.cells #[.func (.func 204) #[] #[.pointer (some ⟨w.heap.size+1,0,none⟩),.pointer (some ⟨w.heap.size+4,0,none⟩),.pointer (some ⟨w.heap.size,0,none⟩),.pointer (some ⟨w.heap.size+5,0,none⟩),.pointer (some ⟨w.heap.size+2,0,none⟩)]] 256)))
 cases hv:visit ((tx s d).parses t) clr lo hi' (most+1) 0 (i,l) ([],[]) with
 |none=>
  have L:Hid (RA=none):=by show _=_;rw[p.o,hv];rfl
  rw[hv]at I;clear hv
  go_wp2_with (go_at_call 204
               (refine (I.o _ _ h.o b.o).mono ?_);rintro T w1 ⟨P,j⟩;obtain rfl:T=.panicked [{v:=Value.iface 184 (.agg #[]),recovered:=false}]:=P;have u:=qh (h.o.trans (b.o.belowB j ql)))
  refine⟨rfl,?_⟩;rw[L.o];exact⟨rfl,u.o⟩
 |some st'=>
  have M:Hid (RA=some st'.2):=by show _=_;rw[p.o,hv];rfl
  rw[hv]at I;clear hv
  go_wp2_with (go_at_call 204
               (refine (I.o _ _ h.o b.o).mono ?_);rintro T w1 ⟨P,j⟩;obtain⟨rfl,a4,c, -⟩:=P;have u:=qh (h.o.trans (b.o.belowB j ql));have l12:=c.out.cell;have K:=qh c.out.2;obtain⟨a2,a3,rfl⟩:=c.out.2.form;clear c j)
  go_ret;rw[M.o];exact⟨⟨_,rfl,K.o.mono (by omega)⟩,u.o⟩
end ReMem
namespace ReMem
open Go Go.RowKit MatchMath
theorem begins_any (s:ByteArray) (a:Bool) (c i:Nat) (w:World) (b:TBox w c s a) (hi:i<=s.size) (h:s.size<=65536):
  Calls Tryz.prog 167 #[.pointer (some ⟨c,0,none⟩),.int .i64 i] w fun r w'=>r=.returned (.bool ((tx s a).begins i))/\qw w w':=by
 obtain⟨t0,t1, -⟩:=b;have e:(s.size:Int)<=65536:=by omega
 rcases i with _ | m
 ·have HR:Hid ((tx s a).begins 0=true):=by show _=_;simp[Text.begins]
  rw[HR.o];go_enter func167,ntmps167;go_wp2;go_ret;exact⟨rfl,Below.refl _ _⟩
 ·have b:m<s.size:=by omega
  have d:(m:Int)< (s.size:Int):=by omega
  rw[show (((m+1:Nat)):Int)=(m:Int)+1 from by omega];have g:((m:Int)+1==0)=false:=by simp;omega
  cases a with
  |false=>
   have HR:Hid ((tx s false).begins (m+1)=false):=by show _=_;simp[Text.begins,tx]
   rw[HR.o];go_enter func167,ntmps167;go_wp2;go_ret;exact⟨rfl,Below.refl _ _⟩
  |true=>
   have HR:Hid ((tx s true).begins (m+1)=(((s[m].toNat:Nat):Int)==10)):=by
    show _=_;rw[<- byte10 s b];simp[Text.begins,tx]
   rw[HR.o];go_enter func167,ntmps167;go_wp2;go_ret;exact⟨rfl,Below.refl _ _⟩
theorem ends_any (s:ByteArray) (a:Bool) (c i:Nat) (w:World) (b:TBox w c s a) (hi:i<=s.size) (h:s.size<=65536):
  Calls Tryz.prog 168 #[.pointer (some ⟨c,0,none⟩),.int .i64 i] w fun r w'=>r=.returned (.bool ((tx s a).ends i))/\qw w w':=by
 obtain⟨t0,t1, -⟩:=b;have e:(s.size:Int)<=65536:=by omega
 by_cases hie:i=s.size
 ·subst hie
  have HR:Hid ((tx s a).ends s.size=true):=by show _=_;simp[Text.ends,tx,Ce]
  rw[HR.o];go_enter func168,ntmps168;go_wp2;go_ret;exact⟨rfl,Below.refl _ _⟩
 ·have b:i<s.size:=by omega
  have d:(i:Int)< (s.size:Int):=by omega
  have g:((i:Int)==(s.size:Int))=false:=by simp;omega
  clear hie;cases a with
  |false=>
   have HR:Hid ((tx s false).ends i=false):=by
    show _=_;have:(i==s.data.toList.length)=false:=by rw[Ce];simp;omega
    unfold Text.ends tx;simp only[this,Bool.false_and,Bool.or_false]
   rw[HR.o];go_enter func168,ntmps168;go_wp2;go_ret;exact⟨rfl,Below.refl _ _⟩
  |true=>
   have HR:Hid ((tx s true).ends i=(((s[i].toNat:Nat):Int)==10)):=by
    show _=_;have:(i==s.data.toList.length)=false:=by rw[Ce];simp;omega
    rw[<- byte10 s b];unfold Text.ends tx;simp only[this,Bool.true_and,Bool.false_or]
   rw[HR.o];go_enter func168,ntmps168;go_wp2;go_ret;exact⟨rfl,Below.refl _ _⟩
end ReMem
end Go.Proofs.YtjefcpjciogcjaaGreatDoor
