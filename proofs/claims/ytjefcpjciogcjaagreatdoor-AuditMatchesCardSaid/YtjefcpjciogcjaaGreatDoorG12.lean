/- A situation of a repetition: what the reference's visit does, if its parses do. -/
import Derived.Test.YtjefcpjciogcjaaGreatDoorG11
import Derived.Deep.CutBlock
import Derived.Deep.DeepCutAuto
import Derived.Deep.RegionLaw
namespace Go.Proofs.YtjefcpjciogcjaaGreatDoor
set_option maxRecDepth 100000
set_option linter.unusedVariables false
set_option maxHeartbeats 40000000
open Tryz
namespace ReMem
open Go Go.RowKit MatchMath Strs
theorem Hw {f:F} {j:List Span->List Span} (lo hi:Int) (d:Nat):∀(a:Nat) (d:Nat) (c:Int) (p:Parse) (g b:RSt),g.2.length+d<=g.1.length->visit f j lo hi a c p g=some b->b.2.length+d<=b.1.length
 | 0,_,_,_,_,_,_,h=>by cases h
 |a+1,d,c,p,g,b,hst,h=>by
  unfold visit at h;simp only at h;generalize norm lo hi c=e at h;by_cases hs:(e,p)∈g.1
  ·rw[if_pos hs]at h
   obtain rfl:=Option.some.inj h;exact hst
  ·rw[if_neg hs]at h
   by_cases hb:most<g.1.length+1
   · rw[if_pos hb]at h;cases h
   ·rw[if_neg hb]at h
    have r:∀(l:List Parse) (s n:RSt),s.2.length+(d+1)<=s.1.length->l.foldlM (fun s q=>if p.1<q.1\/e<lo then visit f j lo hi a (e+1) q s else some s) s=some n->n.2.length+(d+1)<=n.1.length:=by
     intro l
     induction l with
     |nil=>
      intro s n t m;have:s=n:=by simpa using m
      subst this;exact t
     |cons x l ih=>
      intro s n t m;rw[List.foldlM_cons]at m;by_cases hc:p.1<x.1\/e<lo
      ·rw[if_pos hc]at m
       cases hv:visit f j lo hi a (e+1) x s with
       | none=>rw[hv]at m;cases m
       |some i=>
        rw[hv]at m;exact ih i n (Hw lo hi d a (d+1) _ x s i t hv) m
      ·rw[if_neg hc]at m
       exact ih s n t m
    have u:(g.1++ [(e,p)]).length=g.1.length+1:=by simp
    have o:∀(i:RSt),i.2.length+(d+1)<=i.1.length->(i.1,if lo<=e then i.2++ [p] else i.2)=b->b.2.length+d<=b.1.length:=by
     intro i y e;rw[<- e];simp only;split
     · rw[List.length_append,List.length_singleton];omega
     · omega
    by_cases hg:hi= -1\/e<hi
    ·rw[if_pos hg]at h
     cases hfl:f p.1 (j p.2) with
     | none=>rw[hfl]at h;cases h
     |some l=>
      rw[hfl,Option.bind_some]at h;cases hx:l.foldlM (fun s q=>if p.1<q.1\/e<lo then visit f j lo hi a (e+1) q s else some s) (g.1++ [(e,p)],g.2) with
      | none=>rw[hx]at h;cases h
      |some i=>
       rw[hx]at h;exact o i (r l (g.1++ [(e,p)],g.2) i (by simp only;rw[u];omega) hx) (by simpa using h)
    ·rw[if_neg hg]at h
     exact o (g.1++ [(e,p)],g.2) (by simp only;rw[u];omega) (by simpa using h)
theorem sit_info:(Tryz.prog.info? 236).map (fun i=>(i.zero,i.size,i.bytes))=some (some (.agg #[.int .i64 0,.int .i64 0,.slice none 0 0]),3,40):=by kernel_rfl
theorem SRow.more {w m:World} {base:Nat} {r:Value} {l:List Sit} {d:List Value} {p:Sit} {b:Value} (h:d.length=l.length) (t:∀(j:Nat) (p:Sit) (b:Value),l[j]? =some p->d[j]? =some b->Al w b p.2.2)
  (i:Al w b p.2.2) (hr:m.ownsRow base 236 3 r (l.length+1) (Gy l d++ [.int .i64 p.1,.int .i64 (p.2.1:Int),b])) {C:Nat->Prop} (n:Chg C w m) (o:NoSp C w):SRow m base r (l++ [p]):=by
 refine⟨d++ [b],by simp[h],?_,fun j q u a c=>?_⟩
 ·rw[Yq h,List.length_append]
  exact hr
 ·by_cases hjl:j<l.length
  ·rw[List.getElem?_append_left hjl]at a
   rw[List.getElem?_append_left (by omega)]at c;exact (t j q u a c).chg n o
  ·have g:j< (l++ [p]).length:=(List.getElem?_eq_some_iff.1 a).1
   simp only[List.length_append,List.length_singleton]at g;have e:j=l.length:=by omega
   subst e;rw[List.getElem?_append_right ql]at a;rw[List.getElem?_append_right (by omega)]at c;simp[h]at a c;subst a c;exact i.chg n o
def VPost (lb:Nat) (s:ByteArray) (ln:Bool) (o:Int) (x0 x1 x2 x3:Nat) (lo hi g:Int) (av seenv outv:Value) (w:World) (res:Option RSt) (r:Ending) (w':World):Prop:=
 (match res with
   | none=>r=.returned (.bool false)
   | some st=>r=.returned (.bool true)/\∃sv ov,LBox w' lb s ln o x0 x1 x2 x3 lo hi g av sv ov/\SRow w' (lb+1) sv st.1/\PRow w' (lb+1) ov (An [] st.2)/\Near w.heap.size seenv sv/\Near w.heap.size outv ov)/\
 Chg (fun b=>b=lb\/some b=seenv.ownBlock\/some b=outv.ownBlock) w w'
theorem refVisit_any (s:ByteArray) (L:Bool) (k n:Nat) (hp:Uv s L k n) (e t:Re) (f8:e.args= [t]) (t5:e.op=5) (A0:size t<n) (f3:gok k e=true) (q5:Ag e) (z:Nat) (av:Value) (W0:World) (hl:Lies W0 av e.args) (F9:W0.heap.size<=z) (G4:s.size<=4096) (hk:k<=4096):
  ∀(u:Nat) (c:Int) (p:Parse) (pv:Value) (d:RSt) (a0 e3:Value) (w:World),most+1<=u+d.1.length->d.1.length<=most->d.2.length<=d.1.length->0<=c->c<=65->qw W0 w->LBox w z s L e.op (Sets.Aa e.set 0) (Sets.Aa e.set 1) (Sets.Aa e.set 2) (Sets.Aa e.set 3) e.lo e.hi e.group av a0 e3->SRow w (z+1) a0 d.1->PRow w (z+1) e3 (An [] d.2)->Al w pv p.2->p.2.length=k->SpOk s.size p.2->p.1<=s.size->
  Calls Tryz.prog 173 #[.pointer (some ⟨z,0,none⟩),.agg #[.int .i64 c,.int .i64 (p.1:Int),pv]] w (VPost z s L e.op (Sets.Aa e.set 0) (Sets.Aa e.set 1) (Sets.Aa e.set 2) (Sets.Aa e.set 3) e.lo e.hi e.group av a0 e3 w (visit ((tx s L).parses t) (clear (Ap e)) e.lo e.hi u c p d)):=by
 have y7:counted e.lo e.hi=true:=by
  obtain⟨o,p,l,h,g,args⟩:=e;simp only[Re.op]at t5;unfold gok at f3;simp only[Bool.and_eq_true]at f3;have:=f3.1.2.1;rw[if_pos t5]at this;exact this
 obtain⟨q1,q2,q3⟩:=Ew y7;have y9:gok k t=true:=by
  obtain⟨o,p,l,h,g,args⟩:=e;simp only[Re.args]at f8;unfold gok at f3;simp only[Bool.and_eq_true]at f3;exact Bk f3.2 (by rw[f8];simp)
 have u6:=qh (fun sv l W (hW:qw W0 W) (h:Al W sv l) (hl4:l.length<=4096)=>Ww e av sv l W q5 (hl.stays hW) h hl4);rw[f8]at hl;obtain⟨ta,tc,I2,rfl, -,m7⟩:=hl.opened;have HO:=qh m7;have C0:=qh (fun v sv i l w=>hp t v sv i l w A0 y9);have h8:=qh (Dd (tx s L) t);have z3:(tx s L).s.length=s.size:=Ce s;rw[z3]at h8;have u3:=qh Iy;have s5:=qh refSeen_any;have s0:=qh q3;have p2:=qh (Ef (Ap e));have p3:=qh (fun l (h:SpOk s.size l)=>Pt (Ap e) h);have B3:=qh hk;have F3:=qh (m7.fit t (by simp));unfold Ac at u6;clear hl m7 hp A0 f3 q5 y7 y9 z3 f8 t5 q3;generalize clear (Ap e)=clr at*;generalize e.op=o at*;generalize e.lo=lo at*;generalize e.hi=hi at*;generalize e.group=g at*;generalize Sets.Aa e.set 0=x0 at*;generalize Sets.Aa e.set 1=x1 at*;generalize Sets.Aa e.set 2=x2 at*;generalize Sets.Aa e.set 3=x3 at*;intro u
 induction u with
 | zero=>intro c p pv d a0 e3 w h1 h2;omega
 |succ u ih=>
  intro c p pv d a0 e3 w F7 s9 G3 F5 F6 A2 e2 t9 t7 o9 z5 q8 z4;have IH:=qh ih;clear ih;obtain⟨C,hC⟩:∃C,norm lo hi c=C:=⟨_,rfl⟩;obtain⟨R,hR⟩:∃R,visit ((tx s L).parses t) clr lo hi (u+1) c p d=R:=⟨_,rfl⟩;rw[hR];have HR:Hid (R=if (C,p)∈d.1 then some d else if most<d.1.length+1 then none else ((if hi= -1\/C<hi then ((tx s L).parses t p.1 (clr p.2)).bind fun l=>l.foldlM (fun D q=>if p.1<q.1\/C<lo then visit ((tx s L).parses t) clr lo hi u (C+1) q D else some D) (d.1++ [(C,p)],d.2) else some (d.1++ [(C,p)],d.2))).map fun D=>(D.1,if lo<=C then D.2++ [p] else D.2)):=by
   show _=_;rw[<- hR,<-hC];rfl
  clear hR;obtain⟨sa,sc,rfl⟩:=t9.form;obtain⟨oa,oc,rfl⟩:=t7.form;obtain⟨pa,Y,rfl⟩:=o9.shape;obtain⟨r,a⟩:=p;simp only at*;have n9:=qh e2;have b9:=qh t9;have s4:=qh t7;have x5:=qh o9;have s3:=qh z5;have p8:=qh q8;have o3:=qh A2;have F0:=o9.len.2;have l7:=e2.l7;have l8:=e2.l8;have E8:=e2.lt;have u7:Hid (hi= -1->C<=64):=fun h=>by rw[<- hC];unfold norm;rw[if_pos h];omega
  have D1:0<=C/\C<=65:=by rw[<- hC];unfold norm;split <;> omega
  have o4:=qh (heap_alloc_new w (.cells #[.int .i64 c,.int .i64 (r:Int),.slice pa a.length Y] 236));have n6:=qh (qb w (.cells #[.int .i64 c,.int .i64 (r:Int),.slice pa a.length Y] 236));have r8:=qh hC;clear e2 t9 t7 o9 z5 q8 A2 hC;go_enter func173,ntmps173;obtain⟨B,hB⟩:∃B,decide (hi<0/\lo<c)=B:=⟨_,rfl⟩;have g8:=qh hB;clear hB
  go_upto_region 1 with fail
  go_cut [23] (fun E0 N=>E0=.bool B/\qw w N/\N.heap[w.heap.size]? =some (.cells #[.int .i64 c,.int .i64 (r:Int),.slice pa a.length Y] 236 (0,0)))
  case first=>
   by_cases h1:hi<0
   ·by_cases h2:lo<c
    ·have HT:Hid (B=true):=by show _=_;rw[<- g8.o,decide_eq_true ⟨h1,h2⟩]
     go_region
     all_goals go_wp2_with fail
     all_goals go_meet
     all_goals exact⟨by rw[HT.o],n6.o.drew,o4.o⟩
    ·have HT:Hid (B=false):=by show _=_;rw[<- g8.o,decide_eq_false (fun h=>h2 h.2)]
     go_region
     all_goals go_wp2_with fail
     all_goals go_meet
     all_goals exact⟨by rw[HT.o],n6.o.drew,o4.o⟩
   ·have HT:Hid (B=false):=by show _=_;rw[<- g8.o,decide_eq_false (fun h=>h1 h.1)]
    go_region
    all_goals go_wp2_with fail
    all_goals go_meet
    all_goals exact⟨by rw[HT.o],n6.o.drew,o4.o⟩
  case rest=>
  obtain⟨rfl,a9,X⟩:=hcut;have e4:=qh a9;have h0:=qh X
  rename World=>wa
  have c0:wa.cell? ⟨w.heap.size,0,none⟩=some (.int .i64 c):=by rw[qc X];rfl
  have cz:wa.frozen? ⟨w.heap.size,0,none⟩=false:=by unfold World.frozen?;rw[X];simp
  have D6:=(n9.o.stays a9).l7;clear a9 X l7 l8
  go_upto_if 23 with fail
  go_cut [] (fun N=>qw w N/\N.heap[w.heap.size]? =some (.cells #[.int .i64 C,.int .i64 (r:Int),.slice pa a.length Y] 236 (0,0)))
  case first=>
   cases B with
   |true=>
    have j7:=g8.o;rw[decide_eq_true_eq]at j7;have r7:Hid (C=lo):=by
     show _=_;rw[<- r8.o];have:=s0.o;unfold norm;rw[if_pos (by omega)];omega
    clear j7;go_wp2_with fail
    go_meet
    refine⟨e4.o.trans ((Chg.setCell _ _ _ _).below e4.o.size (fun k hk e=>by omega)),?_⟩;rw[r7.o,setCell_eq_setRow _ _ 0 _ _ _ _ h0.o];simpa using setRow_heap wa w.heap.size _ _ _ _ h0.o
   |false=>
    have j7:=g8.o;rw[decide_eq_false_iff_not]at j7;have r7:Hid (C=c):=by
     show _=_;rw[<- r8.o];unfold norm;split
     · omega
     · rfl
    clear j7;go_wp2_with fail
    go_meet
    exact⟨e4.o,by rw[r7.o];exact h0.o⟩
  case rest=>
  obtain⟨a9,X⟩:=hcut;clear c0 cz D6 e4 h0 g8 o4 n6 r8;have e4:=qh a9;have h0:=qh X;have m3:w.heap.size<wc.heap.size:=(qd X);have c0:wc.cell? ⟨w.heap.size,0,none⟩=some (.int .i64 C):=by rw[qc X];rfl
  have c1:wc.cell? ⟨w.heap.size,1,none⟩=some (.int .i64 (r:Int)):=by rw[qc X];rfl
  have c2:wc.cell? ⟨w.heap.size,2,none⟩=some (.slice pa a.length Y):=by rw[qc X];rfl
  have i8:=qh (s5.o z s L o x0 x1 x2 x3 lo hi g (.slice ta [t].length tc) (.slice sa d.1.length sc) (.slice oa (An [] d.2).length oc) (.slice pa a.length Y) d.1 C (r,a) (z+1) wc (n9.o.stays a9) (b9.o.stays a9) (x5.o.stays a9) (by unfold most at s9;omega));clear a9 X;by_cases hin:(C,(r,a))∈d.1
  ·have e0:decide ((C,(r,a))∈d.1)=true:=decide_eq_true hin
   rw[e0]at i8;have i7:Hid (R=some d):=by show _=_;rw[HR.o,if_pos hin]
   clear e0 hin
   go_wp2_with (go_at_call 209
                (refine i8.o.mono ?_);rintro e w3 ⟨rfl,j9⟩;have J:=qh (Ab e4.o j9))
   go_ret;rw[i7.o];exact⟨⟨rfl,_,_,n9.o.stays J.o,b9.o.stays J.o,s4.o.stays J.o,Near.refl _ _,Near.refl _ _⟩,Chg.of J.o⟩
  ·have e0:decide ((C,(r,a))∈d.1)=false:=decide_eq_false hin
   rw[e0]at i8;have i7:Hid (R=if most<d.1.length+1 then none else ((if hi= -1\/C<hi then ((tx s L).parses t r (clr a)).bind fun l=>l.foldlM (fun D q=>if r<q.1\/C<lo then visit ((tx s L).parses t) clr lo hi u (C+1) q D else some D) (d.1++ [(C,(r,a))],d.2) else some (d.1++ [(C,(r,a))],d.2))).map fun D=>(D.1,if lo<=C then D.2++ [(r,a)] else D.2)):=by show _=_;rw[HR.o,if_neg hin]
   clear e0 hin HR
   go_wp2_with (go_at_call 209
                (refine i8.o.mono ?_);rintro e w3 ⟨rfl,j9⟩;have J:=qh (Ab e4.o j9);have j6:=qh ((j9.block _ m3).trans h0.o);have y5:=Nat.lt_of_lt_of_le m3 j9.size)
   have g0:=n9.o.stays J.o;have p4:=qh g0;obtain⟨vs,A1,q7,z8⟩:=b9.o.stays J.o;have j3:=qh A1;have p7:=qh q7;have x4:=qh z8;have l11:=g0.l11;have o1:=qh (b9.o.stays J.o).noSp;have o0:=qh (b9.o.stays J.o).lt;have i3:=qh (s4.o.stays J.o);have i9:=qh (x5.o.stays J.o);have f0:w3.cell? ⟨w.heap.size,0,none⟩=some (.int .i64 C):=by rw[qc j6.o];rfl
   have f1:w3.cell? ⟨w.heap.size,1,none⟩=some (.int .i64 (r:Int)):=by rw[qc j6.o];rfl
   have f2:w3.cell? ⟨w.heap.size,2,none⟩=some (.slice pa a.length Y):=by rw[qc j6.o];rfl
   have F1:d.1.length<=4096:=by unfold most at s9;exact s9
   have D4:z<w3.heap.size:=g0.lt;obtain⟨i0,z0,A3,A4,A5⟩:=info_parts sit_info;clear c0 c1 c2 g0 A1 q7 z8
   go_upto_region 5 with fail
   go_cut [] (fun N=>∃nv,LBox N z s L o x0 x1 x2 x3 lo hi g (.slice ta 1 tc) nv (.slice oa (An [] d.2).length oc)/\SRow N (z+1) nv (d.1++ [(C,(r,a))])/\PRow N (z+1) (.slice oa (An [] d.2).length oc) (An [] d.2)/\Al N (.slice pa a.length Y) a/\Near (w.heap.size+1) (.slice sa d.1.length sc) nv/\Chg (fun b=>b=z\/some b=(Value.slice sa d.1.length sc).ownBlock\/some b=(Value.slice oa (An [] d.2).length oc).ownBlock) w N/\N.heap[w.heap.size]? =some (.cells #[.int .i64 C,.int .i64 (r:Int),.slice pa a.length Y] 236 (0,0))/\qw W0 N)
   case first=>
    go_region_law
     ((refine step_append_lies _ (by rfl) _ _ _ (by rfl) (z+1) 236 i0 _ 3 40 underlying231 z0 A3 A4 A5 rfl (by omega) (.slice sa d.1.length sc) d.1.length (Gy d.1 vs) (by rfl) ((p7.o.alloc _).drew)
        ⟨w3.heap.size,0,none⟩ 1 1 [.int .i64 C,.int .i64 (r:Int),.slice pa a.length Y] (by rfl) (by rfl) (World.news_of_block (cs:=#[.int .i64 C,.int .i64 (r:Int),.slice pa a.length Y]) (t:=236) (fr:=(0,0)) (heap_alloc_new w3 _)) (by simp[Value.oneCell'])
        (by omega) (by unfold maxLen;omega) (by omega) (by simp;omega) (w3.heap.size+1) (by simp) ?_;intro gg C6 w1 t6 t2 y4 G0
       have d9:Chg (fun k=>some k=(Value.slice sa d.1.length sc).ownBlock) w3 w1:=((Chg.alloc _ w3 _).drew).trans (Chg.grown t2) (fun k _ e=>e);have f9:=p4.o.chg d9 (fun e=>by have:=(o0.o z e.symm).1;omega);have G7:=f9.l11;have I3:=f9.fz 11;have F8:z+1<=gg:=y4.elim (fun e=>(o0.o gg e).1) (fun e=>by rw[e];simp;omega)))
    all_goals go_wp2_with fail
    all_goals go_meet
    all_goals
     have z6:=SRow.more j3.o x4.o i9.o (p:=(C,(r,a))) t6 d9 o1.o;have h4:NoSp (fun b=>b=z) w1:=fun b e7 fz e hg=>f9.ns e7 fz (e▸hg);have a2:=Chg.setCell w1 z 11 (.slice (some ⟨gg,0,none⟩) (d.1.length+1) C6);have q9:=i3.o.chg d9 o1.o (fun b U e=>(b9.o.stays J.o).apart i3.o b e.symm U);have z9:=i9.o.chg d9 o1.o;have z7:=J.o.size;have D5:=d9.size;refine⟨_,f9.set11 _,z6.chg a2 h4 (fun b U e=>by have:=(z6.lt b U).1;omega),q9.chg a2 h4 (fun b U e=>by have:=(q9.lt b U).1;omega),z9.chg a2 h4,?_,?_,?_,?_⟩
     · exact y4.imp (fun e=>e.symm) (fun e j hj=>by cases hj;rw[e];simp;omega)
     · exact ((Chg.of J.o).trans d9 (fun k _ e=>.inr (.inl e))).trans a2 (fun k _ e=>.inl e)
     · exact (a2.block _ (by omega) (by omega)).trans ((d9.block _ y5 (fun e=>by have:=(b9.o.lt _ e.symm).2;omega)).trans j6.o)
     · exact (o3.o.trans (J.o.mono o3.o.size)).trans ((d9.below (B:=W0.heap.size) (Nat.le_trans o3.o.size z7) (fun k hk e=>by have:=(o0.o k e.symm).1;omega)).trans (a2.below (Nat.le_trans o3.o.size (Nat.le_trans z7 D5)) (fun k hk e=>by omega)))
   case rest=>
   obtain⟨nv,a5,g6,r0,r2,b4,q0,p0,r5⟩:=hcut;clear f0 f1 f2 l11 z0 A3 A4 A5 j3 p7 x4 o1 o0 i3 i9 p4 j6 i8
   rename World=>w4
   obtain⟨na,nc,rfl⟩:=g6.form;have m6:(d.1++ [(C,(r,a))]).length=d.1.length+1:=by simp
   rw[m6]at a5 g6 b4;have i1:=qh a5;have j2:=qh g6;have i4:=qh r0;have j0:=qh r2;have v2:=qh b4;have n7:=qh q0;have s6:=qh p0;have x9:=qh r5;have E6:w.heap.size<w4.heap.size:=(qd p0);have l11:=a5.l11;have l7:=a5.l7;have l8:=a5.l8;have f0:w4.cell? ⟨w.heap.size,0,none⟩=some (.int .i64 C):=by rw[qc p0];rfl
   have E7:((d.1.length+1:Nat):Int)<=4097:=by omega
   clear a5 g6 r0 r2 b4 q0 p0 r5 m6;by_cases hbig:most<d.1.length+1
   ·have i6:Hid (R=none):=by show _=_;rw[i7.o,if_pos hbig]
    have D2:4096< ((d.1.length+1:Nat):Int):=by unfold most at hbig;omega
    clear hbig;go_wp2_with fail
    go_ret;rw[i6.o];exact⟨rfl,n7.o⟩
   ·have D2:((d.1.length+1:Nat):Int)<=4096:=by unfold most at hbig;omega
    have p9:Hid (R=((if hi= -1\/C<hi then ((tx s L).parses t r (clr a)).bind fun l=>l.foldlM (fun D q=>if r<q.1\/C<lo then visit ((tx s L).parses t) clr lo hi u (C+1) q D else some D) (d.1++ [(C,(r,a))],d.2) else some (d.1++ [(C,(r,a))],d.2))).map fun D=>(D.1,if lo<=C then D.2++ [(r,a)] else D.2)):=by show _=_;rw[i7.o,if_neg hbig]
    clear hbig i7;obtain⟨G,hG⟩:∃G,decide (hi= -1\/C<hi)=G:=⟨_,rfl⟩;have HG:=qh hG;clear hG
    go_upto_region 8 with fail
    go_cut [64] (fun E1 N=>E1=.bool G/\N=w4.drew)
    case first=>
     by_cases g1:hi<0
     · have HT:Hid (G=true):=by show _=_;rw[<- HG.o,decide_eq_true_eq];have:=s0.o;omega
       go_region
       all_goals go_wp2_with fail
       all_goals go_meet
       all_goals exact⟨by rw[HT.o],rfl⟩
     · by_cases g2:C<hi
       ·have HT:Hid (G=true):=by show _=_;rw[<- HG.o,decide_eq_true_eq];omega
        go_region
        all_goals go_wp2_with fail
        all_goals go_meet
        all_goals exact⟨by rw[HT.o],rfl⟩
       ·have HT:Hid (G=false):=by show _=_;rw[<- HG.o,decide_eq_false_iff_not];omega
        go_region
        all_goals go_wp2_with fail
        all_goals go_meet
        all_goals exact⟨by rw[HT.o],rfl⟩
    case rest=>
    obtain⟨rfl,rfl⟩:=hcut;clear f0 l7 l8 l11;have f6:Hid (R=((if G=true then ((tx s L).parses t r (clr a)).bind fun l=>l.foldlM (fun D q=>if r<q.1\/C<lo then visit ((tx s L).parses t) clr lo hi u (C+1) q D else some D) (d.1++ [(C,(r,a))],d.2) else some (d.1++ [(C,(r,a))],d.2))).map fun D=>(D.1,if lo<=C then D.2++ [(r,a)] else D.2)):=by show _=_;rw[p9.o,<-HG.o];simp only[decide_eq_true_eq]
    have B2:Hid (G=true->C<=64):=fun h=>by
     have h1:=HG.o;rw[h,decide_eq_true_eq]at h1;have:=s0.o;have hc:=u7.o;omega
    clear p9
    go_upto_if 64 with fail
    go_cut [] (fun N=>∃(E:RSt) (M K:Value),R=some (E.1,if lo<=C then E.2++ [(r,a)] else E.2)/\E.2.length<=4096/\LBox N z s L o x0 x1 x2 x3 lo hi g (.slice ta 1 tc) M K/\SRow N (z+1) M E.1/\PRow N (z+1) K (An [] E.2)/\Al N (.slice pa a.length Y) a/\Near (w.heap.size+1) (.slice sa d.1.length sc) M/\Near (w.heap.size+1) (.slice oa (An [] d.2).length oc) K/\Chg (fun b=>b=z\/some b=(Value.slice sa d.1.length sc).ownBlock\/some b=(Value.slice oa (An [] d.2).length oc).ownBlock) w N/\N.heap[w.heap.size]? =some (.cells #[.int .i64 C,.int .i64 (r:Int),.slice pa a.length Y] 236 (0,0)))
    case first=>
     cases G with
     | false=>
       go_wp2_with fail
       go_meet
       exact⟨(d.1++ [(C,(r,a))],d.2),_,_,by rw[f6.o];rfl,by simp only;omega,i1.o.chg (Chg.drew (Chg.refl (fun _=>False) w4)) (fun h=>h),j2.o.chg (Chg.drew (Chg.refl (fun _=>False) w4)) (NoSp.none _) (fun _ _ h=>h),i4.o.chg (Chg.drew (Chg.refl (fun _=>False) w4)) (NoSp.none _) (fun _ _ h=>h),j0.o.chg (Chg.drew (Chg.refl (fun _=>False) w4)) (NoSp.none _),v2.o,Near.refl _ _,n7.o.drew,s6.o⟩
     | true=>
       obtain⟨I,b5⟩:∃x,x=w4.drew:=⟨_,rfl⟩;have Q:LBox I z s L o x0 x1 x2 x3 lo hi g (.slice ta 1 tc) (.slice na (d.1.length+1) nc) (.slice oa (An [] d.2).length oc):=by rw[b5];exact i1.o.chg (Chg.drew (Chg.refl (fun _=>False) w4)) (fun h=>h)
       have a3:Hid (SRow I (z+1) (.slice na (d.1.length+1) nc) (d.1++ [(C,(r,a))])):=by show SRow _ _ _ _;rw[b5];exact j2.o.chg (Chg.drew (Chg.refl (fun _=>False) w4)) (NoSp.none _) (fun _ _ h=>h)
       have P:Hid (PRow I (z+1) (.slice oa (An [] d.2).length oc) (An [] d.2)):=by show PRow _ _ _ _;rw[b5];exact i4.o.chg (Chg.drew (Chg.refl (fun _=>False) w4)) (NoSp.none _) (fun _ _ h=>h)
       have f7:Hid (Al I (.slice pa a.length Y) a):=by show Al _ _ _;rw[b5];exact j0.o.chg (Chg.drew (Chg.refl (fun _=>False) w4)) (NoSp.none _)
       have g9:Hid (Chg (fun b=>b=z\/some b=(Value.slice sa d.1.length sc).ownBlock\/some b=(Value.slice oa (An [] d.2).length oc).ownBlock) w I):=by show Chg _ _ _;rw[b5];exact n7.o.drew
       have V:I.heap[w.heap.size]? =some (.cells #[.int .i64 C,.int .i64 (r:Int),.slice pa a.length Y] 236 (0,0)):=by rw[b5];exact s6.o
       have j4:Hid (qw W0 I):=by show Below _ _ _;rw[b5];exact x9.o.drew
       rw[<- b5];clear b5 i1 j2 i4 j0 n7 s6 x9;have f4:=qh Q;have C4:=qh V;have m1:w.heap.size<I.heap.size:=(qd V);have f1:I.cell? ⟨w.heap.size,1,none⟩=some (.int .i64 (r:Int)):=by rw[qc V];rfl
       have f2:I.cell? ⟨w.heap.size,2,none⟩=some (.slice pa a.length Y):=by rw[qc V];rfl
       obtain⟨t',tv,b,off,ht,hv,e1,⟨k0,k1,k2,k3,k4,k5,k6,k7,k8⟩,t4,y8,hm⟩:=(HO.o.stays j4.o).at (j:=0) (by simp);obtain rfl:t=t':=by simpa using ht
       simp only[Nat.zero_mul,Nat.add_zero]at k0 k1 k2 k3 k4 k5 k6 k7 k8;obtain⟨l0,l1,l2,l3,l4,l5,l6,l7,l8,l9,l10,l11,l12,lz, -,t3⟩:=Q;subst e1;have i2:=qh (fun sv W (hW:qw I W) (h:Al W sv (clr a))=>C0.o tv sv r (clr a) W y8 (t4.stays hW) h (by rw[p2.o];exact s3.o) (p3.o a p8.o) z4);have u5:=qh (fun W (hW:qw I W)=>u6.o (.slice pa a.length Y) a W (j4.o.trans (hW.mono j4.o.size)) (f7.o.stays hW) (by have:=s3.o;have:=B3.o;omega));unfold Ac at i2;obtain⟨A8,A9,rfl⟩:=t4.shape;have c9:=qh (fun W (S:qw I W)=>(And.intro (up9 S l0) (And.intro (up9 S l1) (And.intro (up9 S l2) (And.intro (up9 S l3) (And.intro (up9 S l4) (And.intro (up9 S l5) (And.intro (up9 S l6) (And.intro (up9 S l7) (And.intro (up9 S l8) (And.intro (up9 S l9) (And.intro (up9 S l10) (And.intro (up9 S k0) (And.intro (up9 S k1) (And.intro (up9 S k2) (And.intro (up9 S k3) (And.intro (up9 S k4) (And.intro (up9 S k5) (And.intro (up9 S k6) (And.intro (up9 S k7) (And.intro (up9 S k8) (And.intro (up9 S f1) (up9 S f2)))))))))))))))))))))));clear ht hv t4 y8 hm V l11 l12 lz;cases hf:(tx s L).parses t r (clr a) with
       |none=>
        have i6:Hid (R=none):=by show _=_;rw[f6.o,if_pos rfl,hf];rfl
        rw[hf]at i2;clear hf;go_wp2_with fail
        go_region_held3 (fun A=>A.cell? ⟨z,0,none⟩=some (.string s)/\A.cell? ⟨z,1,none⟩=some (.bool L)/\A.cell? ⟨z,2,none⟩=some (.int .i64 o)/\A.cell? ⟨z,3,none⟩=some (.int .u64 x0)/\A.cell? ⟨z,4,none⟩=some (.int .u64 x1)/\A.cell? ⟨z,5,none⟩=some (.int .u64 x2)/\A.cell? ⟨z,6,none⟩=some (.int .u64 x3)/\A.cell? ⟨z,7,none⟩=some (.int .i64 lo)/\A.cell? ⟨z,8,none⟩=some (.int .i64 hi)/\A.cell? ⟨z,9,none⟩=some (.int .i64 g)/\A.cell? ⟨z,10,none⟩=some (.slice (some ⟨b,off,none⟩) 1 tc)/\A.cell? ⟨b,off,none⟩=some (.int .i64 t.op)/\A.cell? ⟨b,off+1,none⟩=some (.int .u64 (Sets.Aa t.set 0:Nat))/\A.cell? ⟨b,off+2,none⟩=some (.int .u64 (Sets.Aa t.set 1:Nat))/\A.cell? ⟨b,off+3,none⟩=some (.int .u64 (Sets.Aa t.set 2:Nat))/\A.cell? ⟨b,off+4,none⟩=some (.int .u64 (Sets.Aa t.set 3:Nat))/\A.cell? ⟨b,off+5,none⟩=some (.int .i64 t.lo)/\A.cell? ⟨b,off+6,none⟩=some (.int .i64 t.hi)/\A.cell? ⟨b,off+7,none⟩=some (.int .i64 t.group)/\A.cell? ⟨b,off+8,none⟩=some (.slice A8 t.args.length A9)/\A.cell? ⟨w.heap.size,1,none⟩=some (.int .i64 (r:Int))/\A.cell? ⟨w.heap.size,2,none⟩=some (.slice pa a.length Y)) (first | exact c9.o _ (Below.refl _ _) | exact c9.o _ ((Below.refl _ I).drew) | exact c9.o _ a7.o | exact c9.o _ T.o)
         (first
         | (    go_at_call 210
                (refine (u5.o _ (by first | exact (Below.refl _ I).drew | exact Below.refl _ I)).mono ?_)
                rintro e w6 ⟨⟨cv,rfl,e9⟩,e8⟩;have a7:Hid (qw I w6):=(by first | exact Ab ((Below.refl _ I).drew) e8 | exact e8)
                have r9:=qh e9;obtain⟨C7,C8,rfl⟩:=e9.shape;clear e9 e8)
         | (    go_at_call 89
                (refine (i2.o _ _ a7.o r9.o).mono ?_);rintro e w7 ⟨h7,o5⟩;obtain rfl:=h7;have T:=qh (Ab a7.o o5)))
        all_goals go_wp2_with fail
        all_goals go_ret
        all_goals
         rw[i6.o];exact⟨rfl,g9.o.trans (Chg.of (C:=fun _=>False) T.o) (fun _ _ h=>h.elim)⟩
       |some m=>
        have B4:=qh (Ej _ _ _ _ _ hf);have B6:=qh (fun q (hq:q∈m)=>(h8.o r (clr a) m z4 (p3.o a p8.o) hf q hq));obtain⟨RF,s8⟩:∃x,m.foldlM (fun D q=>if r<q.1\/C<lo then visit ((tx s L).parses t) clr lo hi u (C+1) q D else some D) (d.1++ [(C,(r,a))],d.2)=x:=⟨_,rfl⟩;have v8:Hid (R=RF.map fun D=>(D.1,if lo<=C then D.2++ [(r,a)] else D.2)):=by show _=_;rw[f6.o,if_pos rfl,hf,Option.bind_some,s8]
        have v9:=qh s8;rw[hf]at i2;clear hf s8 f6;go_wp2_with fail
        go_region_held3 (fun A=>A.cell? ⟨z,0,none⟩=some (.string s)/\A.cell? ⟨z,1,none⟩=some (.bool L)/\A.cell? ⟨z,2,none⟩=some (.int .i64 o)/\A.cell? ⟨z,3,none⟩=some (.int .u64 x0)/\A.cell? ⟨z,4,none⟩=some (.int .u64 x1)/\A.cell? ⟨z,5,none⟩=some (.int .u64 x2)/\A.cell? ⟨z,6,none⟩=some (.int .u64 x3)/\A.cell? ⟨z,7,none⟩=some (.int .i64 lo)/\A.cell? ⟨z,8,none⟩=some (.int .i64 hi)/\A.cell? ⟨z,9,none⟩=some (.int .i64 g)/\A.cell? ⟨z,10,none⟩=some (.slice (some ⟨b,off,none⟩) 1 tc)/\A.cell? ⟨b,off,none⟩=some (.int .i64 t.op)/\A.cell? ⟨b,off+1,none⟩=some (.int .u64 (Sets.Aa t.set 0:Nat))/\A.cell? ⟨b,off+2,none⟩=some (.int .u64 (Sets.Aa t.set 1:Nat))/\A.cell? ⟨b,off+3,none⟩=some (.int .u64 (Sets.Aa t.set 2:Nat))/\A.cell? ⟨b,off+4,none⟩=some (.int .u64 (Sets.Aa t.set 3:Nat))/\A.cell? ⟨b,off+5,none⟩=some (.int .i64 t.lo)/\A.cell? ⟨b,off+6,none⟩=some (.int .i64 t.hi)/\A.cell? ⟨b,off+7,none⟩=some (.int .i64 t.group)/\A.cell? ⟨b,off+8,none⟩=some (.slice A8 t.args.length A9)/\A.cell? ⟨w.heap.size,1,none⟩=some (.int .i64 (r:Int))/\A.cell? ⟨w.heap.size,2,none⟩=some (.slice pa a.length Y)) (first | exact c9.o _ (Below.refl _ _) | exact c9.o _ ((Below.refl _ I).drew) | exact c9.o _ a7.o | exact c9.o _ T.o)
         (first
         | (    go_at_call 210
                (refine (u5.o _ (by first | exact (Below.refl _ I).drew | exact Below.refl _ I)).mono ?_)
                rintro e w6 ⟨⟨cv,rfl,e9⟩,e8⟩;have a7:Hid (qw I w6):=(by first | exact Ab ((Below.refl _ I).drew) e8 | exact e8)
                have r9:=qh e9;obtain⟨C7,C8,rfl⟩:=e9.shape;clear e9 e8)
         | (    go_at_call 89
                (refine (i2.o _ _ a7.o r9.o).mono ?_);rintro e w7 ⟨h7,o5⟩;obtain⟨mv,rfl,o8⟩:=h7;have T:=qh (Ab a7.o o5);have B7:=qh (o8.mono (Nat.le_trans t3 a7.o.size));have B5:Hid (∀b,mv.ownBlock=some b->I.heap.size<=b):=(fun b U=>Nat.le_trans a7.o.size (o8.lt b U).1);obtain⟨ma,mc,rfl⟩:=o8.form;clear o8 o5))
        go_wp2_with fail
        have v0:=qh (f4.o.stays T.o);have x7:=qh (a3.o.stays T.o);have v4:=qh (P.o.stays T.o);have x6:=qh (f7.o.stays T.o);have B1:=qh (g9.o.trans (Chg.of (C:=fun _=>False) T.o) (fun _ _ h=>h.elim));have C5:=qh ((T.o.block _ m1).trans C4.o);have C3:=qh (j4.o.trans (T.o.mono j4.o.size));have u4:Hid (Apart (.slice ma m.length mc) (.slice oa (An [] d.2).length oc)):=Apart.new B5.o (fun b U=>(P.o.lt b U).2);have E5:C<=64:=B2.o (by first | rfl | exact True.intro)
        have F4:0<=C:=D1.1;have G1:(m.length:Int)<=4096:=by have:=B4.o;omega
        have u9:Hid (most+1<=u+(d.1++ [(C,(r,a))]).length/\(d.1++ [(C,(r,a))]).length<=most/\d.2.length+1<=(d.1++ [(C,(r,a))]).length):=by show _/\_/\_;rw[List.length_append,List.length_singleton];unfold most at *;omega
        clear l0 l1 l2 l3 l4 l5 l6 l7 l8 l9 l10 k0 k1 k2 k3 k4 k5 k6 k7 k8 f1 f2
        go_loopw [7] (fun i wr=>∃(j:Nat) (E:RSt) (M K:Value),j<=m.length/\i=.int .i64 j/\Hid ((m.drop j).foldlM (fun D q=>if r<q.1\/C<lo then visit ((tx s L).parses t) clr lo hi u (C+1) q D else some D) E=RF)/\Hid (most+1<=u+E.1.length/\E.1.length<=most/\E.2.length+1<=E.1.length)/\LBox wr z s L o x0 x1 x2 x3 lo hi g (.slice (some ⟨b,off,none⟩) 1 tc) M K/\SRow wr (z+1) M E.1/\PRow wr (z+1) K (An [] E.2)/\Al wr (.slice pa a.length Y) a/\PRow wr (z+1) (.slice ma m.length mc) m/\Apart (.slice ma m.length mc) K/\Near (w.heap.size+1) (.slice sa d.1.length sc) M/\Near (w.heap.size+1) (.slice oa (An [] d.2).length oc) K/\Chg (fun b=>b=z\/some b=(Value.slice sa d.1.length sc).ownBlock\/some b=(Value.slice oa (An [] d.2).length oc).ownBlock) w wr/\wr.heap[w.heap.size]? =some (.cells #[.int .i64 C,.int .i64 (r:Int),.slice pa a.length Y] 236 (0,0))/\qw W0 wr) (fun i _=>m.length-(intOf i).toNat)
        case atStart=>exact⟨0,(d.1++ [(C,(r,a))],d.2),_,_,Nat.zero_le _,rfl,by rw[List.drop_zero];exact v9,u9,v0.o,x7.o,v4.o,x6.o,B7.o,u4.o,v2.o,Near.refl _ _,B1.o,C5.o,C3.o⟩
        case round=>
         obtain⟨j,E,M,K,hj,rfl,u8,b6,g4,n4,m9,n2,g5,j8,h3,b3,m4,h5,u1⟩:=hrel;have f5:=qh g4;have a4:=qh n4;have b8:=qh m9;have j1:=qh n2;have b7:=qh g5;have h6:=qh j8;have a8:=qh h3;have a1:=qh b3;have n8:=qh m4;have s7:=qh h5;have j5:=qh u1;have m2:w.heap.size<wr.heap.size:=(qd h5);by_cases hjt:j<m.length
         ·have D3:(j:Int)< (m.length:Int):=by omega
          have hz:m[j]? =some m[j]:=List.getElem?_eq_getElem hjt;obtain⟨mb,g7,yv,em,y1,y2,p1⟩:=g5.lies.at hz;obtain⟨ya,yc,rfl⟩:=p1.shape;have G6:=p1.len.2;have a6:=B6.o _ (List.getElem_mem hjt);have l7:=g4.l7;have f0:wr.cell? ⟨w.heap.size,0,none⟩=some (.int .i64 C):=by rw[qc h5];rfl
          have f1:wr.cell? ⟨w.heap.size,1,none⟩=some (.int .i64 (r:Int)):=by rw[qc h5];rfl
          have e6:Hid ((if r<m[j].1\/C<lo then visit ((tx s L).parses t) clr lo hi u (C+1) m[j] E else some E).bind (fun s2=>(m.drop (j+1)).foldlM (fun D q=>if r<q.1\/C<lo then visit ((tx s L).parses t) clr lo hi u (C+1) q D else some D) s2)=RF):=by
                 show _=_;have h1:=u8.out;rw[Ga hz,List.foldlM_cons]at h1;exact h1
          have o2:=qh (fun W (hW:qw wr W)=>IH.o (C+1) m[j] (.slice ya m[j].2.length yc) E M K W b6.out.1 b6.out.2.1 (by have:=b6.out.2.2;omega) (by omega) (by omega) (j5.o.trans (hW.mono j5.o.size)) (f5.o.stays hW) (a4.o.stays hW) (b8.o.stays hW) (p1.stays hW) (by have h1:=a6.2.2.1;rw[p2.o]at h1;exact h1.trans s3.o) a6.2.2.2 a6.2.1);have G5:r<=m[j].1:=a6.1;have F2:(m[j].1:Int)<=(s.size:Int):=by have:=a6.2.1;omega
          have j3:=qh (fun s2 (h:visit ((tx s L).parses t) clr lo hi u (C+1) m[j] E=some s2)=>And.intro (Ks lo hi u (C+1) m[j] E s2 b6.out.2.1 h) (Hw lo hi 1 u 1 (C+1) m[j] E s2 b6.out.2.2 h));cases em
          clear hz p1 a6 g4 n4 m9 n2 g5 j8 h3 b3 m4 h5 u1;generalize m[j]=y at*;obtain⟨ye,u2⟩:=y;simp only at*;by_cases hgo:r<ye\/C<lo
          ·      rw[if_pos hgo]at e6
                 cases hv:visit ((tx s L).parses t) clr lo hi u (C+1) (ye,u2) E with
                 |none=>
                  rw[hv]at o2 e6;have i6:Hid (R=none):=by show _=_;rw[v8.o,<-e6.o];rfl
                  clear hv;have m5:((ye:Int)==(r:Int))=false\/(((ye:Int)==(r:Int))=true/\C<lo):=by
                   by_cases hgp:r<ye
                   · exact .inl (by simp;omega)
                   · exact .inr ⟨by simp;omega,by omega⟩
                  clear hgo;have u0:True:=True.intro;go_wp2_with fail
                  go_upto_region 15 with fail
                  go_cut [114] (fun n5 N=>n5=.bool false/\(∀p,N.cell? p=wr.cell? p)/\qw wr N)
                  case first=>
                   rcases m5 with b1 | ⟨b1,b2⟩;all_goals go_region
                   all_goals go_wp2_with fail
                   all_goals go_meet
                   all_goals exact⟨by first | rfl | (simp;omega),fun p=>rfl,(Below.refl _ wr).drew⟩
                  case rest=>
                  obtain⟨rfl,b0,m0⟩:=hcut;have E3:wc.cell? ⟨mb,g7+j*2,none⟩=some (.int .i64 (ye:Int)):=by rw[b0];exact y1
                  have E4:wc.cell? ⟨mb,g7+j*2+1,none⟩=some (.slice ya u2.length yc):=by rw[b0];exact y2
                  have C9:wc.cell? ⟨w.heap.size,0,none⟩=some (.int .i64 C):=by rw[b0];exact f0
                  have O:=qh m0;clear b0 m0 y1 y2 f0 f1 l7 m5;go_wp2_with fail
                  go_still_tail 15,(by kernel_rfl)
                  change wpList _ _ _ _ _ (World.drew wc)
                  go_wp2_with (go_at_call 173
                               (refine (o2.o _ O.o.drew).mono ?_);rintro e w9 ⟨h9,o6⟩;obtain rfl:=h9;have e5:=qh (n8.o.trans ((Chg.of O.o.drew).trans o6 (fun k _ e=>e)) (fun k hk e=>by
                                rcases e with e | e | e
                                · exact .inl e
                                · exact .inr (.inl (a8.o.sub (Nat.lt_succ_of_lt hk) e))
                                · exact .inr (.inr (a1.o.sub (Nat.lt_succ_of_lt hk) e)))))
                  go_wp2_with fail
                  go_ret;rw[i6.o];exact⟨rfl,e5.o⟩
                 |some s2=>
                  have C2:=qh (j3.o s2 hv);rw[hv]at o2 e6;clear hv j3;have m5:((ye:Int)==(r:Int))=false\/(((ye:Int)==(r:Int))=true/\C<lo):=by
                   by_cases hgp:r<ye
                   · exact .inl (by simp;omega)
                   · exact .inr ⟨by simp;omega,by omega⟩
                  clear hgo;have u0:True:=True.intro;go_wp2_with fail
                  go_upto_region 15 with fail
                  go_cut [114] (fun n5 N=>n5=.bool false/\(∀p,N.cell? p=wr.cell? p)/\qw wr N)
                  case first=>
                   rcases m5 with b1 | ⟨b1,b2⟩;all_goals go_region
                   all_goals go_wp2_with fail
                   all_goals go_meet
                   all_goals exact⟨by first | rfl | (simp;omega),fun p=>rfl,(Below.refl _ wr).drew⟩
                  case rest=>
                  obtain⟨rfl,b0,m0⟩:=hcut;have E3:wc.cell? ⟨mb,g7+j*2,none⟩=some (.int .i64 (ye:Int)):=by rw[b0];exact y1
                  have E4:wc.cell? ⟨mb,g7+j*2+1,none⟩=some (.slice ya u2.length yc):=by rw[b0];exact y2
                  have C9:wc.cell? ⟨w.heap.size,0,none⟩=some (.int .i64 C):=by rw[b0];exact f0
                  have O:=qh m0;clear b0 m0 y1 y2 f0 f1 l7 m5;go_wp2_with fail
                  go_still_tail 15,(by kernel_rfl)
                  change wpList _ _ _ _ _ (World.drew wc)
                  go_wp2_with (go_at_call 173
                               (refine (o2.o _ O.o.drew).mono ?_);rintro e w9 ⟨h9,o6⟩;obtain⟨rfl,E2,D9,q6,r4,r1,z1,z2⟩:=h9;have e5:Hid (Chg (fun b=>b=z\/some b=M.ownBlock\/some b=K.ownBlock) wr w9):=(Chg.of O.o.drew).trans o6 (fun k _ e=>e);have v1:=qh q6;have x8:=qh r4;have v5:=qh r1;have B9:=qh z1;have v3:=qh z2;clear o6 q6 r4 r1 z1 z2)
                  go_wp2_with fail
                  have p6:Hid (NoSp (fun b=>b=z\/some b=M.ownBlock\/some b=K.ownBlock) wr):=fun b e7 fz U hg=>by
                   rcases U with e | e | e
                   · exact f5.o.ns e7 fz (e▸hg)
                   · exact a4.o.noSp b e7 fz e hg
                   · exact b8.o.noSp b e7 fz e hg
                  go_roundw
                  case rel=>
                   refine⟨j+1,s2,E2,D9,by omega,by go_num,e6,?_,v1.o,x8.o,v5.o,j1.o.chg e5.o p6.o,b7.o.chg e5.o p6.o (fun b U hC=>?_),h6.o.near v3.o (fun b U=>Nat.lt_of_lt_of_le (b7.o.lt b U).2 O.o.size),a8.o.trans B9.o (Nat.le_trans m2 O.o.size),a1.o.trans v3.o (Nat.le_trans m2 O.o.size),n8.o.trans e5.o (fun k hk e=>?_),?_,?_⟩
                   · show _/\_/\_
                     have h1:=C2.o;have h2:=b6.out;exact⟨by omega,h1.1.2,h1.2⟩
                   · rcases hC with e | e | e
                     ·have:=(b7.o.lt b U).1
                      omega
                     · exact a4.o.apart b7.o b e.symm U
                     · exact h6.o b U e.symm
                   · rcases e with e | e | e
                     · exact .inl e
                     · exact .inr (.inl (a8.o.sub (Nat.lt_succ_of_lt hk) e))
                     · exact .inr (.inr (a1.o.sub (Nat.lt_succ_of_lt hk) e))
                   · refine (e5.o.block _ m2 (fun e=>?_)).trans s7.o
                     rcases e with e | e | e
                     · omega
                     ·have:=(b9.o.lt _ (a8.o.sub (Nat.lt_succ_self _) e).symm).2
                      omega
                     ·have:=(s4.o.lt _ (a1.o.sub (Nat.lt_succ_self _) e).symm).2
                      omega
                   · refine j5.o.trans (e5.o.below j5.o.size (fun k hk e=>?_))
                     rcases e with e | e | e
                     · omega
                     ·have:=(a4.o.lt _ e.symm).1
                      omega
                     ·have:=(b8.o.lt _ e.symm).1
                      omega
                  case measure=>simp[intOf];omega
          ·      rw[if_neg hgo,Option.bind_some]at e6
                 have b1:((ye:Int)==(r:Int))=true:=by simp;omega
                 have b2:lo<=C:=by omega
                 clear hgo;go_wp2_with fail
                 go_region
                 go_wp2_with fail
                 go_roundw
                 case rel=>exact⟨j+1,E,M,K,by omega,by go_num,e6,b6,f5.o.chg (Chg.drew (Chg.refl (fun _=>False) wr)) (fun h=>h),a4.o.chg (Chg.drew (Chg.refl (fun _=>False) wr)) (NoSp.none _) (fun _ _ h=>h),b8.o.chg (Chg.drew (Chg.refl (fun _=>False) wr)) (NoSp.none _) (fun _ _ h=>h),j1.o.chg (Chg.drew (Chg.refl (fun _=>False) wr)) (NoSp.none _),b7.o.chg (Chg.drew (Chg.refl (fun _=>False) wr)) (NoSp.none _) (fun _ _ h=>h),h6.o,a8.o,a1.o,n8.o.drew,s7.o,j5.o.drew⟩
                 case measure=>simp[intOf];omega
         ·have D3:¬(j:Int)< (m.length:Int):=by omega
          have i5:Hid (R=some (E.1,if lo<=C then E.2++ [(r,a)] else E.2)):=by
                 show _=_;have h1:=u8.out;rw[show j=m.length by omega,List.drop_length,List.foldlM_nil]at h1;rw[v8.o,<-h1];rfl
          have D0:E.2.length<=4096:=by have:=b6.out;unfold most at this;omega
          clear g4 n4 m9 n2 g5 j8 h3 b3 m4 h5 u1;go_wp2_with fail
          go_meet
          exact⟨E,M,K,i5.o,D0,f5.o,a4.o,b8.o,j1.o,a8.o,a1.o,n8.o,s7.o⟩
    case rest=>
    obtain⟨E,M,K,y0,E9,Q,n3,m8,r3,h3,b3,q4,V⟩:=hcut
    rename World=>I
    obtain⟨A6,A7,rfl⟩:=m8.form;obtain⟨I0,I1,rfl⟩:=n3.form;have v6:=qh y0;have f4:=qh Q;have a3:=qh n3;have P:=qh m8;have f7:=qh r3;have a8:=qh h3;have a1:=qh b3;have g9:=qh q4;have l7:=Q.l7;have l12:=Q.l12;have o7:=Q.lt;have m1:w.heap.size+1<=I.heap.size:=(qd V);have f0:I.cell? ⟨w.heap.size,0,none⟩=some (.int .i64 C):=by rw[qc V];rfl
    have f1:I.cell? ⟨w.heap.size,1,none⟩=some (.int .i64 (r:Int)):=by rw[qc V];rfl
    have f2:I.cell? ⟨w.heap.size,2,none⟩=some (.slice pa a.length Y):=by rw[qc V];rfl
    have y3:=Et E.2 [];simp only[List.length_nil,Nat.zero_add]at y3;have B0:=qh (fun W (S:qw I W)=>u3.o (.slice A6 (An [] E.2).length A7) (.slice pa a.length Y) (An [] E.2) (r,a) (z+1) W (P.o.stays S) (f7.o.stays S) (Nat.le_trans o7 S.size) (by omega));have C1:Hid (An [] (E.2++ [(r,a)])=addU (An [] E.2) (r,a)):=Jf _ _ _;clear y0 Q n3 m8 r3 h3 b3 q4 V y3;by_cases hge:lo<=C
    ·have i5:Hid (R=some (E.1,E.2++ [(r,a)])):=by show _=_;rw[v6.o,if_pos hge]
     go_wp2_with fail
     go_region
     go_wp2_with fail
     go_region_with (go_at_call 127
                     (refine (B0.o _ (by first | exact (Below.refl _ I).drew.drew | exact (Below.refl _ I).drew)).mono ?_)
                     rintro e w6 ⟨⟨G9,rfl,t8,b3⟩,y6⟩;have r6:Hid (Chg (fun k=>some k=(Value.slice A6 (An [] E.2).length A7).ownBlock) I w6):=(Chg.of (by first | exact (Below.refl _ I).drew.drew | exact (Below.refl _ I).drew)).trans y6 (fun k _ e=>e)
                     have g3:=f4.o.chg r6.o (fun e=>by have:=(P.o.lt z e.symm).1;omega);have p5:=qh g3;have v7:=qh t8;have B8:=qh b3;have G8:=g3.l12;have I4:=g3.fz 12;obtain⟨D7,D8,rfl⟩:=t8.form;clear g3 t8 b3 y6)
     all_goals go_wp2_with fail
     all_goals go_ret
     all_goals
       rw[i5.o];have h4:NoSp (fun b=>b=z) w6:=fun b e7 fz e hg=>p5.o.ns e7 fz (e▸hg);have a2:=Chg.setCell w6 z 12 (.slice D7 (addU (An [] E.2) (r,a)).length D8);have G2:=g9.o.size;exact⟨⟨rfl,_,_,p5.o.set12 _,(a3.o.chg r6.o P.o.noSp (fun b U e=>a3.o.apart P.o b U e.symm)).chg a2 h4 (fun b U e=>by have:=(a3.o.lt b U).1;omega),by rw[C1.o];exact v7.o.chg a2 h4 (fun b U e=>by have:=(v7.o.lt b U).1;omega),a8.o.mono (Nat.le_succ _),(a1.o.trans B8.o m1).mono (Nat.le_succ _)⟩,(g9.o.trans r6.o (fun k hk e=>.inr (.inr (a1.o.sub (Nat.lt_succ_of_lt hk) e)))).trans a2 (fun k _ e=>.inl e)⟩
    ·have i5:Hid (R=some (E.1,E.2)):=by show _=_;rw[v6.o,if_neg hge]
     go_wp2_with fail
     go_region
     all_goals go_wp2_with fail
     all_goals go_ret
     all_goals
       rw[i5.o];exact⟨⟨rfl,_,_,f4.o.chg (Chg.drew (Chg.refl (fun _=>False) I)) (fun h=>h),a3.o.chg (Chg.drew (Chg.refl (fun _=>False) I)) (NoSp.none _) (fun _ _ h=>h),P.o.chg (Chg.drew (Chg.refl (fun _=>False) I)) (NoSp.none _) (fun _ _ h=>h),a8.o.mono (Nat.le_succ _),a1.o.mono (Nat.le_succ _)⟩,g9.o.drew⟩
end ReMem
end Go.Proofs.YtjefcpjciogcjaaGreatDoor
