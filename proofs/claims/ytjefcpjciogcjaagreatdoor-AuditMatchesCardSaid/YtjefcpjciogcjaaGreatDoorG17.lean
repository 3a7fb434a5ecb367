/- Lemmas for the walk of the law, in 5 parts. No condition beyond what each states. -/
import Derived.Test.YtjefcpjciogcjaaGreatDoorG14
import Derived.Test.YtjefcpjciogcjaaGreatDoorG15
import Derived.Test.YtjefcpjciogcjaaGreatDoorG16
import Derived.Recover
namespace Go.Proofs.YtjefcpjciogcjaaGreatDoor
set_option maxRecDepth 100000
set_option linter.unusedVariables false
set_option maxHeartbeats 40000000
open Tryz
namespace ReMem
open Go Go.RowKit MatchMath
theorem parP7_any (s:ByteArray) (K:Bool) (k n:Nat) (hp:Fm s K k n) (e:Re) (a5:e.op=7) (v sv:Value) (i:Nat) (l:List Span) (mm:Nat) (w:World) (b0:size e<n+1) (S:size e<=100) (X:gok k e=true) (P:Ag e) (hl:Lies w v e.args) (hs:Al w sv l) (a3:l.length=k) (a4:SpOk s.size l) (hi:i<=s.size) (hm:TBox w mm s K) (ht:Tabs w) (Y:s.size<=4096) (hk:k<=4096):
  Calls Tryz.prog 126 #[.pointer (some ⟨mm,0,none⟩),Ac v e,.int .i64 i,sv] w (PRes w ((tx s K).parses e i l)):=by
 obtain⟨o,p,lo,h,g,args⟩:=e;simp only[Re.op]at a5;subst a5;have b4:=qh P;unfold gok at X;simp only[Bool.and_eq_true]at X;obtain⟨⟨a6,c9,d9⟩,a2⟩:=X;have Q:∀t∈args,size t<n:=fun t ht=>by have:=Bo (e:=.mk 7 p lo h g args) ht;omega
 have e1:args.length<=100:=by have h1:=Ea args;rw[size]at S;omega
 have b9:args.length<=9223372036854775807:=by omega
 have D:Hid ((tx s K).parses (.mk 7 p lo h g args) i l=(tx s K).node 7 p lo h g (Ap (.mk 7 p lo h g args)) ((tx s K).parsesL args) i l):=by show _=_;rw[Text.parses]
 have a9:(tx s K).s.length=s.size:=Ce s;have u:=qh (fun v L W (hb:qw w W) (h:PLies W v L) (hL:L.length<=1099511627776) (hg:GP s.size k L)=>Fg s.size k v L w.heap.size w W hb rfl ht h hL hg Y hk);have HS:=qh hs;have HL:=qh hl;have a1:=qh a4;have a0:=qh a3;have a8:=qh Y;have b6:=qh hk;have HM:=qh hm;have b8:=qh ht;have b5:=qh a2;have b7:=qh Q;have b1:=qh hp;have b2:=Dh a6;obtain⟨va,vc,rfl⟩:=hl.shape;obtain⟨T,U,rfl⟩:=hs.shape;have b3:=hs.len.2;have e0:(i:Int)<=(s.size:Int):=by omega
 have e2:(s.size:Int)<=4096:=by omega
 unfold Ac;simp only[Re.op,Re.set,Re.lo,Re.hi,Re.group,Re.args]at*;obtain⟨R,hR⟩:∃R,(tx s K).parses (.mk 7 p lo h g args) i l=R:=⟨_,rfl⟩;rw[hR]at D ⊢;clear hR hs hl a4 a6 Y a3 hk hm ht a2 Q hp b0 S P;generalize hx0:Sets.Aa p 0=x0 at*;generalize hx1:Sets.Aa p 1=x1 at*;generalize hx2:Sets.Aa p 2=x2 at*;generalize hx3:Sets.Aa p 3=x3 at*;clear hx0 hx1 hx2 hx3;have b:=qh (PW.new w 7 x0 x1 x2 x3 lo h g (.slice va args.length vc) i (.slice T l.length U));go_enter func126,ntmps126
 go_upto_region 4 with fail
 generalize ((w.alloc (.cells #[.int .i64 7,.int .u64 x0,.int .u64 x1,.int .u64 x2,.int .u64 x3,.int .i64 lo,.int .i64 h,.int .i64 g,.slice va args.length vc] 28)).alloc (.cells #[.int .i64 (i:Int),.slice T l.length U] 119)).alloc (.cells #[.slice none 0 0] 115)=w3 at*;obtain⟨d0,d1,d2,d3,d4,d5,d6,d7,d8,e3⟩:=b.o.box;have h0:w3.cell? ⟨w.heap.size+1,0,none⟩=some (.int .i64 (i:Int)):=by rw[qc b.o.here];rfl
 have h1:w3.cell? ⟨w.heap.size+1,1,none⟩=some (.slice T l.length U):=by rw[qc b.o.here];rfl
 have a7:=qh (HS.o.stays b.o.bel);have C:Hid (R=done s.size (if (tx s K).begins i then [(i,l)] else [])):=by show _=_;rw[D.o];unfold Text.node;simp;rw[a9]
 have c:=qh (fun W (hw:qw w3 W)=>And.intro (upc hw h0) (upc hw h1));have r:=qh (fun W (hw:qw w3 W)=>begins_any s K mm i W (HM.o.stays (b.o.bel.trans (hw.mono b.o.bel.size))) hi (by have:=a8.o;omega));have N:=qh (fun W (hw:qw w3 W)=>Fx (w.heap.size+1+1) _ _ [] (i,l) W (b.o.out.stays hw) (a7.o.stays hw) (by simp));have O:=qh (fun W=>Ed ⟨w.heap.size+1+1,0,none⟩ (i:Int) T l.length U W);cases hbg:(tx s K).begins i with
 |true=>
  have E:Hid (R=done s.size [(i,l)]):=by show _=_;rw[C.o,hbg];rfl
  rw[hbg]at r;clear hbg C;cases hd:R with
  |none=>
   go_wp2_with fail
   go_region_held3 (fun M=>M.cell? ⟨w.heap.size+1,0,none⟩=some (.int .i64 (i:Int))/\M.cell? ⟨w.heap.size+1,1,none⟩=some (.slice T l.length U)) (first | exact c.o _ (Below.refl _ _) | exact c.o _ ((Below.refl _ w3).drew) | exact c.o _ a.o | exact A.o)
    (first
    | (go_at_call 167
       (refine (r.o _ (by first | exact (Below.refl _ w3).drew | exact Below.refl _ w3)).mono ?_)
       rintro e4 w4 ⟨rfl,d⟩;have a:Hid (qw w3 w4):=(by first | exact Ab ((Below.refl _ w3).drew) d | exact d)
       clear d)
    | (go_at_call 165
       (refine (N.o _ a.o).mono ?_);rintro e5 w5 ⟨rfl,⟨v5,j⟩,x⟩;have z:=qh j;have A:=qh (And.intro (x.cell (c.o _ a.o).1 (fun e=>by rcases e with e | e;(have:w.heap.size+1=w.heap.size+1+1:=e;omega);cases e)) (x.cell (c.o _ a.o).2 (fun e=>by rcases e with e | e;(have:w.heap.size+1=w.heap.size+1+1:=e;omega);cases e)));have q:=qh ((b.o.bel.trans (a.o.mono b.o.bel.size)).trans (x.below (by have:=b.o.sz;have:=a.o.size;omega) (fun k hk e=>by
        rcases e with e | e
        · omega
        · cases e)))
       have o5:=j.cell;clear j x))
   go_wp2_with (first
   | (go_at_call 172
      (refine (u.o _ [(i,l)] _ q.o z.o.2.lies (by simp) (GP.one hi a0.o a1.o)).mono ?_);rintro e9 w9 ⟨G,B⟩;rw[<- E.o,hd]at G;obtain rfl:e9=.panicked [{v:=Value.iface 184 (.agg #[]),recovered:=false}]:=G;have y:=qh (Ab q.o B)))
   refine⟨rfl,?_⟩;try rw[hd]
   exact⟨rfl,y.o⟩
  |some m9=>
   go_wp2_with fail
   go_region_held3 (fun M=>M.cell? ⟨w.heap.size+1,0,none⟩=some (.int .i64 (i:Int))/\M.cell? ⟨w.heap.size+1,1,none⟩=some (.slice T l.length U)) (first | exact c.o _ (Below.refl _ _) | exact c.o _ ((Below.refl _ w3).drew) | exact c.o _ a.o | exact A.o)
    (first
    | (go_at_call 167
       (refine (r.o _ (by first | exact (Below.refl _ w3).drew | exact Below.refl _ w3)).mono ?_)
       rintro e4 w4 ⟨rfl,d⟩;have a:Hid (qw w3 w4):=(by first | exact Ab ((Below.refl _ w3).drew) d | exact d)
       clear d)
    | (go_at_call 165
       (refine (N.o _ a.o).mono ?_);rintro e5 w5 ⟨rfl,⟨v5,j⟩,x⟩;have z:=qh j;have A:=qh (And.intro (x.cell (c.o _ a.o).1 (fun e=>by rcases e with e | e;(have:w.heap.size+1=w.heap.size+1+1:=e;omega);cases e)) (x.cell (c.o _ a.o).2 (fun e=>by rcases e with e | e;(have:w.heap.size+1=w.heap.size+1+1:=e;omega);cases e)));have q:=qh ((b.o.bel.trans (a.o.mono b.o.bel.size)).trans (x.below (by have:=b.o.sz;have:=a.o.size;omega) (fun k hk e=>by
        rcases e with e | e
        · omega
        · cases e)))
       have o5:=j.cell;clear j x))
   go_wp2_with (first
   | (go_at_call 172
      (refine (u.o _ [(i,l)] _ q.o z.o.2.lies (by simp) (GP.one hi a0.o a1.o)).mono ?_);rintro e9 w9 ⟨G,B⟩;rw[<- E.o,hd]at G;obtain⟨v9,rfl,J⟩:=G;have V:=qh (J.mono (show w.heap.size<=_ from (q.o).size));have y:=qh (Ab q.o B);clear J))
   go_ret;try rw[hd]
   exact⟨⟨_,rfl,V.o⟩,y.o⟩
 |false=>
  have E:Hid (R=done s.size []):=by show _=_;rw[C.o,hbg];rfl
  rw[hbg]at r;clear hbg C;cases hd:R with
  |none=>
   go_wp2_with fail
   go_region_held3 (fun M=>M.cell? ⟨w.heap.size+1,0,none⟩=some (.int .i64 (i:Int))/\M.cell? ⟨w.heap.size+1,1,none⟩=some (.slice T l.length U)) (first | exact c.o _ (Below.refl _ _) | exact c.o _ ((Below.refl _ w3).drew) | exact c.o _ a.o | exact A.o)
    (first
    | (go_at_call 167
       (refine (r.o _ (by first | exact (Below.refl _ w3).drew | exact Below.refl _ w3)).mono ?_)
       rintro e4 w4 ⟨rfl,d⟩;have a:Hid (qw w3 w4):=(by first | exact Ab ((Below.refl _ w3).drew) d | exact d)
       clear d)
    | (go_at_call 165
       (refine (O.o _).mono ?_);rintro e5 w5 ⟨rfl,I⟩;have m:=Ab a.o I;have j:=b.o.out.stays m;have z:=qh j;have A:=qh (c.o _ m);have q:=qh (b.o.bel.trans (m.mono b.o.bel.size));have o5:=j.cell;clear j I m))
   go_wp2_with (first
   | (go_at_call 172
      (refine (u.o _ [] _ q.o z.o.2.lies (by simp) (GP.nil _ _)).mono ?_);rintro e9 w9 ⟨G,B⟩;rw[<- E.o,hd]at G;obtain rfl:e9=.panicked [{v:=Value.iface 184 (.agg #[]),recovered:=false}]:=G;have y:=qh (Ab q.o B)))
   refine⟨rfl,?_⟩;try rw[hd]
   exact⟨rfl,y.o⟩
  |some m9=>
   go_wp2_with fail
   go_region_held3 (fun M=>M.cell? ⟨w.heap.size+1,0,none⟩=some (.int .i64 (i:Int))/\M.cell? ⟨w.heap.size+1,1,none⟩=some (.slice T l.length U)) (first | exact c.o _ (Below.refl _ _) | exact c.o _ ((Below.refl _ w3).drew) | exact c.o _ a.o | exact A.o)
    (first
    | (go_at_call 167
       (refine (r.o _ (by first | exact (Below.refl _ w3).drew | exact Below.refl _ w3)).mono ?_)
       rintro e4 w4 ⟨rfl,d⟩;have a:Hid (qw w3 w4):=(by first | exact Ab ((Below.refl _ w3).drew) d | exact d)
       clear d)
    | (go_at_call 165
       (refine (O.o _).mono ?_);rintro e5 w5 ⟨rfl,I⟩;have m:=Ab a.o I;have j:=b.o.out.stays m;have z:=qh j;have A:=qh (c.o _ m);have q:=qh (b.o.bel.trans (m.mono b.o.bel.size));have o5:=j.cell;clear j I m))
   go_wp2_with (first
   | (go_at_call 172
      (refine (u.o _ [] _ q.o z.o.2.lies (by simp) (GP.nil _ _)).mono ?_);rintro e9 w9 ⟨G,B⟩;rw[<- E.o,hd]at G;obtain⟨v9,rfl,J⟩:=G;have V:=qh (J.mono (show w.heap.size<=_ from (q.o).size));have y:=qh (Ab q.o B);clear J))
   go_ret;try rw[hd]
   exact⟨⟨_,rfl,V.o⟩,y.o⟩
end ReMem
namespace ReMem
open Go Go.RowKit MatchMath
theorem parP8_any (s:ByteArray) (K:Bool) (k n:Nat) (hp:Fm s K k n) (e:Re) (a5:e.op=8) (v sv:Value) (i:Nat) (l:List Span) (mm:Nat) (w:World) (b0:size e<n+1) (S:size e<=100) (X:gok k e=true) (P:Ag e) (hl:Lies w v e.args) (hs:Al w sv l) (a3:l.length=k) (a4:SpOk s.size l) (hi:i<=s.size) (hm:TBox w mm s K) (ht:Tabs w) (Y:s.size<=4096) (hk:k<=4096):
  Calls Tryz.prog 126 #[.pointer (some ⟨mm,0,none⟩),Ac v e,.int .i64 i,sv] w (PRes w ((tx s K).parses e i l)):=by
 obtain⟨o,p,lo,h,g,args⟩:=e;simp only[Re.op]at a5;subst a5;have b4:=qh P;unfold gok at X;simp only[Bool.and_eq_true]at X;obtain⟨⟨a6,c9,d9⟩,a2⟩:=X;have Q:∀t∈args,size t<n:=fun t ht=>by have:=Bo (e:=.mk 8 p lo h g args) ht;omega
 have e1:args.length<=100:=by have h1:=Ea args;rw[size]at S;omega
 have b9:args.length<=9223372036854775807:=by omega
 have D:Hid ((tx s K).parses (.mk 8 p lo h g args) i l=(tx s K).node 8 p lo h g (Ap (.mk 8 p lo h g args)) ((tx s K).parsesL args) i l):=by show _=_;rw[Text.parses]
 have a9:(tx s K).s.length=s.size:=Ce s;have u:=qh (fun v L W (hb:qw w W) (h:PLies W v L) (hL:L.length<=1099511627776) (hg:GP s.size k L)=>Fg s.size k v L w.heap.size w W hb rfl ht h hL hg Y hk);have HS:=qh hs;have HL:=qh hl;have a1:=qh a4;have a0:=qh a3;have a8:=qh Y;have b6:=qh hk;have HM:=qh hm;have b8:=qh ht;have b5:=qh a2;have b7:=qh Q;have b1:=qh hp;have b2:=Dh a6;obtain⟨va,vc,rfl⟩:=hl.shape;obtain⟨T,U,rfl⟩:=hs.shape;have b3:=hs.len.2;have e0:(i:Int)<=(s.size:Int):=by omega
 have e2:(s.size:Int)<=4096:=by omega
 unfold Ac;simp only[Re.op,Re.set,Re.lo,Re.hi,Re.group,Re.args]at*;obtain⟨R,hR⟩:∃R,(tx s K).parses (.mk 8 p lo h g args) i l=R:=⟨_,rfl⟩;rw[hR]at D ⊢;clear hR hs hl a4 a6 Y a3 hk hm ht a2 Q hp b0 S P;generalize hx0:Sets.Aa p 0=x0 at*;generalize hx1:Sets.Aa p 1=x1 at*;generalize hx2:Sets.Aa p 2=x2 at*;generalize hx3:Sets.Aa p 3=x3 at*;clear hx0 hx1 hx2 hx3;have b:=qh (PW.new w 8 x0 x1 x2 x3 lo h g (.slice va args.length vc) i (.slice T l.length U));go_enter func126,ntmps126
 go_upto_region 4 with fail
 generalize ((w.alloc (.cells #[.int .i64 8,.int .u64 x0,.int .u64 x1,.int .u64 x2,.int .u64 x3,.int .i64 lo,.int .i64 h,.int .i64 g,.slice va args.length vc] 28)).alloc (.cells #[.int .i64 (i:Int),.slice T l.length U] 119)).alloc (.cells #[.slice none 0 0] 115)=w3 at*;obtain⟨d0,d1,d2,d3,d4,d5,d6,d7,d8,e3⟩:=b.o.box;have h0:w3.cell? ⟨w.heap.size+1,0,none⟩=some (.int .i64 (i:Int)):=by rw[qc b.o.here];rfl
 have h1:w3.cell? ⟨w.heap.size+1,1,none⟩=some (.slice T l.length U):=by rw[qc b.o.here];rfl
 have a7:=qh (HS.o.stays b.o.bel);have C:Hid (R=done s.size (if (tx s K).ends i then [(i,l)] else [])):=by show _=_;rw[D.o];unfold Text.node;simp;rw[a9]
 have c:=qh (fun W (hw:qw w3 W)=>And.intro (upc hw h0) (upc hw h1));have r:=qh (fun W (hw:qw w3 W)=>ends_any s K mm i W (HM.o.stays (b.o.bel.trans (hw.mono b.o.bel.size))) hi (by have:=a8.o;omega));have N:=qh (fun W (hw:qw w3 W)=>Fx (w.heap.size+1+1) _ _ [] (i,l) W (b.o.out.stays hw) (a7.o.stays hw) (by simp));have O:=qh (fun W=>Ed ⟨w.heap.size+1+1,0,none⟩ (i:Int) T l.length U W);cases hbg:(tx s K).ends i with
 |true=>
  have E:Hid (R=done s.size [(i,l)]):=by show _=_;rw[C.o,hbg];rfl
  rw[hbg]at r;clear hbg C;cases hd:R with
  |none=>
   go_wp2_with fail
   go_region_held3 (fun M=>M.cell? ⟨w.heap.size+1,0,none⟩=some (.int .i64 (i:Int))/\M.cell? ⟨w.heap.size+1,1,none⟩=some (.slice T l.length U)) (first | exact c.o _ (Below.refl _ _) | exact c.o _ ((Below.refl _ w3).drew) | exact c.o _ a.o | exact A.o)
    (first
    | (go_at_call 168
       (refine (r.o _ (by first | exact (Below.refl _ w3).drew | exact Below.refl _ w3)).mono ?_)
       rintro e4 w4 ⟨rfl,d⟩;have a:Hid (qw w3 w4):=(by first | exact Ab ((Below.refl _ w3).drew) d | exact d)
       clear d)
    | (go_at_call 165
       (refine (N.o _ a.o).mono ?_);rintro e5 w5 ⟨rfl,⟨v5,j⟩,x⟩;have z:=qh j;have A:=qh (And.intro (x.cell (c.o _ a.o).1 (fun e=>by rcases e with e | e;(have:w.heap.size+1=w.heap.size+1+1:=e;omega);cases e)) (x.cell (c.o _ a.o).2 (fun e=>by rcases e with e | e;(have:w.heap.size+1=w.heap.size+1+1:=e;omega);cases e)));have q:=qh ((b.o.bel.trans (a.o.mono b.o.bel.size)).trans (x.below (by have:=b.o.sz;have:=a.o.size;omega) (fun k hk e=>by
        rcases e with e | e
        · omega
        · cases e)))
       have o5:=j.cell;clear j x))
   go_wp2_with (first
   | (go_at_call 172
      (refine (u.o _ [(i,l)] _ q.o z.o.2.lies (by simp) (GP.one hi a0.o a1.o)).mono ?_);rintro e9 w9 ⟨G,B⟩;rw[<- E.o,hd]at G;obtain rfl:e9=.panicked [{v:=Value.iface 184 (.agg #[]),recovered:=false}]:=G;have y:=qh (Ab q.o B)))
   refine⟨rfl,?_⟩;try rw[hd]
   exact⟨rfl,y.o⟩
  |some m9=>
   go_wp2_with fail
   go_region_held3 (fun M=>M.cell? ⟨w.heap.size+1,0,none⟩=some (.int .i64 (i:Int))/\M.cell? ⟨w.heap.size+1,1,none⟩=some (.slice T l.length U)) (first | exact c.o _ (Below.refl _ _) | exact c.o _ ((Below.refl _ w3).drew) | exact c.o _ a.o | exact A.o)
    (first
    | (go_at_call 168
       (refine (r.o _ (by first | exact (Below.refl _ w3).drew | exact Below.refl _ w3)).mono ?_)
       rintro e4 w4 ⟨rfl,d⟩;have a:Hid (qw w3 w4):=(by first | exact Ab ((Below.refl _ w3).drew) d | exact d)
       clear d)
    | (go_at_call 165
       (refine (N.o _ a.o).mono ?_);rintro e5 w5 ⟨rfl,⟨v5,j⟩,x⟩;have z:=qh j;have A:=qh (And.intro (x.cell (c.o _ a.o).1 (fun e=>by rcases e with e | e;(have:w.heap.size+1=w.heap.size+1+1:=e;omega);cases e)) (x.cell (c.o _ a.o).2 (fun e=>by rcases e with e | e;(have:w.heap.size+1=w.heap.size+1+1:=e;omega);cases e)));have q:=qh ((b.o.bel.trans (a.o.mono b.o.bel.size)).trans (x.below (by have:=b.o.sz;have:=a.o.size;omega) (fun k hk e=>by
        rcases e with e | e
        · omega
        · cases e)))
       have o5:=j.cell;clear j x))
   go_wp2_with (first
   | (go_at_call 172
      (refine (u.o _ [(i,l)] _ q.o z.o.2.lies (by simp) (GP.one hi a0.o a1.o)).mono ?_);rintro e9 w9 ⟨G,B⟩;rw[<- E.o,hd]at G;obtain⟨v9,rfl,J⟩:=G;have V:=qh (J.mono (show w.heap.size<=_ from (q.o).size));have y:=qh (Ab q.o B);clear J))
   go_ret;try rw[hd]
   exact⟨⟨_,rfl,V.o⟩,y.o⟩
 |false=>
  have E:Hid (R=done s.size []):=by show _=_;rw[C.o,hbg];rfl
  rw[hbg]at r;clear hbg C;cases hd:R with
  |none=>
   go_wp2_with fail
   go_region_held3 (fun M=>M.cell? ⟨w.heap.size+1,0,none⟩=some (.int .i64 (i:Int))/\M.cell? ⟨w.heap.size+1,1,none⟩=some (.slice T l.length U)) (first | exact c.o _ (Below.refl _ _) | exact c.o _ ((Below.refl _ w3).drew) | exact c.o _ a.o | exact A.o)
    (first
    | (go_at_call 168
       (refine (r.o _ (by first | exact (Below.refl _ w3).drew | exact Below.refl _ w3)).mono ?_)
       rintro e4 w4 ⟨rfl,d⟩;have a:Hid (qw w3 w4):=(by first | exact Ab ((Below.refl _ w3).drew) d | exact d)
       clear d)
    | (go_at_call 165
       (refine (O.o _).mono ?_);rintro e5 w5 ⟨rfl,I⟩;have m:=Ab a.o I;have j:=b.o.out.stays m;have z:=qh j;have A:=qh (c.o _ m);have q:=qh (b.o.bel.trans (m.mono b.o.bel.size));have o5:=j.cell;clear j I m))
   go_wp2_with (first
   | (go_at_call 172
      (refine (u.o _ [] _ q.o z.o.2.lies (by simp) (GP.nil _ _)).mono ?_);rintro e9 w9 ⟨G,B⟩;rw[<- E.o,hd]at G;obtain rfl:e9=.panicked [{v:=Value.iface 184 (.agg #[]),recovered:=false}]:=G;have y:=qh (Ab q.o B)))
   refine⟨rfl,?_⟩;try rw[hd]
   exact⟨rfl,y.o⟩
  |some m9=>
   go_wp2_with fail
   go_region_held3 (fun M=>M.cell? ⟨w.heap.size+1,0,none⟩=some (.int .i64 (i:Int))/\M.cell? ⟨w.heap.size+1,1,none⟩=some (.slice T l.length U)) (first | exact c.o _ (Below.refl _ _) | exact c.o _ ((Below.refl _ w3).drew) | exact c.o _ a.o | exact A.o)
    (first
    | (go_at_call 168
       (refine (r.o _ (by first | exact (Below.refl _ w3).drew | exact Below.refl _ w3)).mono ?_)
       rintro e4 w4 ⟨rfl,d⟩;have a:Hid (qw w3 w4):=(by first | exact Ab ((Below.refl _ w3).drew) d | exact d)
       clear d)
    | (go_at_call 165
       (refine (O.o _).mono ?_);rintro e5 w5 ⟨rfl,I⟩;have m:=Ab a.o I;have j:=b.o.out.stays m;have z:=qh j;have A:=qh (c.o _ m);have q:=qh (b.o.bel.trans (m.mono b.o.bel.size));have o5:=j.cell;clear j I m))
   go_wp2_with (first
   | (go_at_call 172
      (refine (u.o _ [] _ q.o z.o.2.lies (by simp) (GP.nil _ _)).mono ?_);rintro e9 w9 ⟨G,B⟩;rw[<- E.o,hd]at G;obtain⟨v9,rfl,J⟩:=G;have V:=qh (J.mono (show w.heap.size<=_ from (q.o).size));have y:=qh (Ab q.o B);clear J))
   go_ret;try rw[hd]
   exact⟨⟨_,rfl,V.o⟩,y.o⟩
end ReMem
namespace ReMem
open Go Go.RowKit MatchMath
theorem parP9_any (s:ByteArray) (ln:Bool) (k n:Nat) (hp:Fm s ln k n) (e:Re) (b8:e.op=9) (v sv:Value) (i:Nat) (l:List Span) (mm:Nat) (w:World) (f0:size e<n+1) (a2:size e<=100) (a5:gok k e=true) (M:Ag e) (hl:Lies w v e.args) (hs:Al w sv l) (b5:l.length=k) (b7:SpOk s.size l) (hi:i<=s.size) (hm:TBox w mm s ln) (ht:Tabs w) (a6:s.size<=4096) (hk:k<=4096):
  Calls Tryz.prog 126 #[.pointer (some ⟨mm,0,none⟩),Ac v e,.int .i64 i,sv] w (PRes w ((tx s ln).parses e i l)):=by
 obtain⟨o,p,lo,h,g,args⟩:=e;simp only[Re.op]at b8;subst b8;have g2:=qh M;unfold gok at a5;simp only[Bool.and_eq_true]at a5;obtain⟨⟨b9,g7,b4⟩,b3⟩:=a5;have a1:∀t∈args,size t<n:=fun t ht=>by have:=Bo (e:=.mk 9 p lo h g args) ht;omega
 have h2:args.length<=100:=by have h1:=Ea args;rw[size]at a2;omega
 have g6:args.length<=9223372036854775807:=by omega
 have S:Hid ((tx s ln).parses (.mk 9 p lo h g args) i l=(tx s ln).node 9 p lo h g (Ap (.mk 9 p lo h g args)) ((tx s ln).parsesL args) i l):=by show _=_;rw[Text.parses]
 have e8:(tx s ln).s.length=s.size:=Ce s;have y:=qh (fun v L W (hb:qw w W) (h:PLies W v L) (hL:L.length<=1099511627776) (hg:GP s.size k L)=>Fg s.size k v L w.heap.size w W hb rfl ht h hL hg a6 hk);have HS:=qh hs;have HL:=qh hl;have a4:=qh b7;have a3:=qh b5;have g4:=qh a6;have e0:=qh hk;have HM:=qh hm;have b0:=qh ht;have g3:=qh b3;have g5:=qh a1;have f6:=qh hp;have f8:=Dh b9;obtain⟨va,vc,rfl⟩:=hl.shape;obtain⟨sa,sc,rfl⟩:=hs.shape;have g1:=hs.len.2;have g8:(i:Int)<=(s.size:Int):=by omega
 have h4:(s.size:Int)<=4096:=by omega
 unfold Ac;simp only[Re.op,Re.set,Re.lo,Re.hi,Re.group,Re.args]at*;obtain⟨R,hR⟩:∃R,(tx s ln).parses (.mk 9 p lo h g args) i l=R:=⟨_,rfl⟩;rw[hR]at S ⊢;clear hR hs hl b7 b9 a6 b5 hk hm ht b3 a1 hp f0 a2 M;have e6:1<=g/\g<=(k:Int):=by simpa using b4
 have b6:=a3.o;have e7:=e0.o;obtain⟨m,rfl⟩:∃m:Nat,g=(m:Int)+1:=⟨(g-1).toNat,by omega⟩;have hm:m<l.length:=by omega
 have h3:(m:Int)< (l.length:Int):=by omega
 have g9:(m:Int)<=4096:=by omega
 clear b6 e6 b4 e7;obtain⟨x,hx⟩:∃x,l[m]? =some x:=⟨_,List.getElem?_eq_getElem hm⟩;obtain⟨sb,so,rfl,y1,y2⟩:=HS.o.at hx;obtain⟨xa,xb⟩:=x;have d9:=a4.o _ (List.mem_of_getElem? hx);have a8:=qh (tx_back s ln l i hx);have A:Hid (R=done s.size (if Ex s (xa,xb) i=true then [(i+(xb-xa).toNat,l)] else [])):=by show _=_;rw[S.o];unfold Text.node;simp[e8,a8.o]
 simp only at y1 y2;clear hx hm a8;have m0:=HM.o.t0;have n0:=b0.o.n0;have n1:=b0.o.n1;generalize hx0:Sets.Aa p 0=x0 at*;generalize Y:Sets.Aa p 1=x1 at*;generalize a0:Sets.Aa p 2=x2 at*;generalize a7:Sets.Aa p 3=x3 at*;clear hx0 Y a0 a7;have C:=qh (PW.new w 9 x0 x1 x2 x3 lo h ((m:Int)+1) (.slice va args.length vc) i (.slice (some ⟨sb,so,none⟩) l.length sc));go_enter func126,ntmps126
 go_upto_region 4 with fail
 generalize ((w.alloc (.cells #[.int .i64 9,.int .u64 x0,.int .u64 x1,.int .u64 x2,.int .u64 x3,.int .i64 lo,.int .i64 h,.int .i64 ((m:Int)+1),.slice va args.length vc] 28)).alloc (.cells #[.int .i64 (i:Int),.slice (some ⟨sb,so,none⟩) l.length sc] 119)).alloc (.cells #[.slice none 0 0] 115)=w3 at*;obtain⟨d0,d1,d2,d3,d4,d5,d6,d7,d8,h5⟩:=C.o.box;have h0:w3.cell? ⟨w.heap.size+1,0,none⟩=some (.int .i64 (i:Int)):=by rw[qc C.o.here];rfl
 have h1:w3.cell? ⟨w.heap.size+1,1,none⟩=some (.slice (some ⟨sb,so,none⟩) l.length sc):=by rw[qc C.o.here];rfl
 have e3:=qh (HS.o.stays C.o.bel);have f4:=upc C.o.bel y1;have f5:=upc C.o.bel y2;have b2:=qh (heap_alloc_new w3 (.cells #[.int .i64 xa,.int .i64 xb] 53));have P:=qh (qb w3 (.cells #[.int .i64 xa,.int .i64 xb] 53))
 go_upto_region 15 with fail
 have h6:=upc (C.o.bel.trans (P.o.mono C.o.bel.size)) n0;have h7:=upc (C.o.bel.trans (P.o.mono C.o.bel.size)) n1;have Q:=upc (C.o.bel.trans (P.o.mono C.o.bel.size)) m0;generalize w3.alloc (.cells #[.int .i64 xa,.int .i64 xb] 53)=w4 at*;have q0:w4.cell? ⟨w3.heap.size,0,none⟩=some (.int .i64 xa):=by rw[qc b2.o];rfl
 have q1:w4.cell? ⟨w3.heap.size,1,none⟩=some (.int .i64 xb):=by rw[qc b2.o];rfl
 have N:=qh (C.o.out.stays P.o);have a9:=qh (e3.o.stays P.o);have r:=qh (C.o.bel.trans (P.o.mono C.o.bel.size));clear n0 n1 m0 y1 y2 f4 f5 d0 d1 d2 d3 d4 d5 d6 d7 d8 h0 h1;have o4:=N.o.cell;rcases d9 with e | ⟨Y,a0,a7⟩
 ·injection e with e1 e2
  subst e1 e2;have G:Hid (R=done s.size []):=by show _=_;rw[A.o];unfold Ex;simp
  clear A;cases hd:R with
  |none=>
   skip
   go_wp2_with (first
   | (go_at_call 172
      (refine (y.o _ [] _ r.o N.o.2.lies (by simp) (GP.nil _ _)).mono ?_);rintro U w9 ⟨I,D⟩;rw[<- G.o,hd]at I;obtain rfl:U=.panicked [{v:=Value.iface 184 (.agg #[]),recovered:=false}]:=I;have B:=qh (Ab r.o D)))
   refine⟨rfl,?_⟩;try rw[hd]
   exact⟨rfl,B.o⟩
  |some m9=>
   skip
   go_wp2_with (first
   | (go_at_call 172
      (refine (y.o _ [] _ r.o N.o.2.lies (by simp) (GP.nil _ _)).mono ?_);rintro U w9 ⟨I,D⟩;rw[<- G.o,hd]at I;obtain⟨v9,rfl,K⟩:=I;have O:=qh (K.mono (show w.heap.size<=_ from (r.o).size));have B:=qh (Ab r.o D);clear K))
   go_ret;try rw[hd]
   exact⟨⟨_,rfl,O.o⟩,B.o⟩
 ·obtain⟨a,rfl⟩:=Int.eq_ofNat_of_zero_le Y
  obtain⟨b,hb⟩:=Int.eq_ofNat_of_zero_le (show 0<=xb-(a:Int) by simp only at a0;omega);obtain rfl:xb=(a:Int)+(b:Int):=by omega
  simp only at Y a0 a7;have c9:(a:Int)+(b:Int)-(a:Int)=(b:Int):=by omega
  have T:=qh c9;have b1:((a:Int)== -1)=false:=by simp <;> omega
  clear hb Y a0;by_cases M:i+b<=s.size
  ·have e4:(i:Int)+(b:Int)<=(s.size:Int):=by omega
   have f7:min ((i:Int)+(b:Int)) (s.size:Int)=(i:Int)+(b:Int):=by omega
   have f9:∀W,(Instr.slice 9 (.string s) (some (.int .i64 (i:Int))) (some (.int .i64 ((i:Int)+(b:Int)))) none).run Tryz.prog W=.ok (.string (s.extract i (i+b))) W:=fun W=>run_slice_string W _ s .i64 .i64 _ _ underlying9 (by omega) (by omega) (by omega);have g0:∀W,(Instr.slice 9 (.string s) (some (.int .i64 (a:Int))) (some (.int .i64 ((a:Int)+(b:Int)))) none).run Tryz.prog W=.ok (.string (s.extract a (a+b))) W:=fun W=>run_slice_string W _ s .i64 .i64 _ _ underlying9 (by omega) (by omega) (by omega);have HE:Hid (Ex s ((a:Int),(a:Int)+(b:Int)) i=((s.extract a (a+b)).toList==(s.extract i (i+b)).toList)):=by
    show _=_;unfold Ex;simp only;rw[T.o,Bool.eq_iff_iff,decide_eq_true_eq,beq_iff_eq,ByteArray.toList_eq,ByteArray.toList_eq,Ld,Ld];simp only[Int.toNat_natCast];exact⟨fun h=>h.2.2,fun h=>⟨by omega,M,h⟩⟩
   rw[HE.o,T.o]at A;simp only[Int.toNat_natCast]at A;cases hE:((s.extract a (a+b)).toList==(s.extract i (i+b)).toList) with
   |true=>
    have G:Hid (R=done s.size [(i+b,l)]):=by show _=_;rw[A.o,hE];rfl
    clear A HE;cases hd:R with
    |  none=>
       go_wp2_with fail
       refine Quietly.Hz 42 (by kernel_rfl) (by kernel_rfl) ?_;intro X F hN c hF;have f1:∀z,(F z).cell? ⟨w3.heap.size,0,none⟩=some (.int .i64 (a:Int)):=fun z=>upc (c z) q0;have f2:∀z,(F z).cell? ⟨w3.heap.size,1,none⟩=some (.int .i64 ((a:Int)+(b:Int))):=fun z=>upc (c z) q1;have f3:∀z,(F z).cell? ⟨mm,0,none⟩=some (.string s):=fun z=>upc (c z) Q;simp only[List.take_succ_cons,List.take_zero];repeat go_big_quiet_step (fail)
       refine wpQuiet_nil ?_;intro z;simp only[List.drop_succ_cons,List.drop_zero];have u:=qh (c z);go_wp2_with (first
         | (go_at_call 165
            (refine (Fx (w.heap.size+1+1) _ _ [] (i+b,l) (F z) (N.o.stays u.o) (a9.o.stays u.o) (by simp)).mono ?_);rintro e5 w5 ⟨rfl,⟨v5,j⟩,V⟩;have E:=qh j;have q:=qh ((r.o.trans (u.o.mono r.o.size)).trans (V.below (Nat.le_trans r.o.size u.o.size) (fun k hk e=>by
             rcases e with e | e
             · omega
             · cases e)))
            have o5:=j.cell;clear j V))
       go_wp2_with (first
       | (go_at_call 172
          (refine (y.o _ [(i+b,l)] _ q.o E.o.2.lies (by simp) (GP.one M a3.o a4.o)).mono ?_);rintro U w9 ⟨I,D⟩;rw[<- G.o,hd]at I;obtain rfl:U=.panicked [{v:=Value.iface 184 (.agg #[]),recovered:=false}]:=I;have B:=qh (Ab q.o D)))
       refine⟨rfl,?_⟩;try rw[hd]
       exact⟨rfl,B.o⟩
    |  some m9=>
       go_wp2_with fail
       refine Quietly.Hz 42 (by kernel_rfl) (by kernel_rfl) ?_;intro X F hN c hF;have f1:∀z,(F z).cell? ⟨w3.heap.size,0,none⟩=some (.int .i64 (a:Int)):=fun z=>upc (c z) q0;have f2:∀z,(F z).cell? ⟨w3.heap.size,1,none⟩=some (.int .i64 ((a:Int)+(b:Int))):=fun z=>upc (c z) q1;have f3:∀z,(F z).cell? ⟨mm,0,none⟩=some (.string s):=fun z=>upc (c z) Q;simp only[List.take_succ_cons,List.take_zero];repeat go_big_quiet_step (fail)
       refine wpQuiet_nil ?_;intro z;simp only[List.drop_succ_cons,List.drop_zero];have u:=qh (c z);go_wp2_with (first
         | (go_at_call 165
            (refine (Fx (w.heap.size+1+1) _ _ [] (i+b,l) (F z) (N.o.stays u.o) (a9.o.stays u.o) (by simp)).mono ?_);rintro e5 w5 ⟨rfl,⟨v5,j⟩,V⟩;have E:=qh j;have q:=qh ((r.o.trans (u.o.mono r.o.size)).trans (V.below (Nat.le_trans r.o.size u.o.size) (fun k hk e=>by
             rcases e with e | e
             · omega
             · cases e)))
            have o5:=j.cell;clear j V))
       go_wp2_with (first
       | (go_at_call 172
          (refine (y.o _ [(i+b,l)] _ q.o E.o.2.lies (by simp) (GP.one M a3.o a4.o)).mono ?_);rintro U w9 ⟨I,D⟩;rw[<- G.o,hd]at I;obtain⟨v9,rfl,K⟩:=I;have O:=qh (K.mono (show w.heap.size<=_ from (q.o).size));have B:=qh (Ab q.o D);clear K))
       go_ret;try rw[hd]
       exact⟨⟨_,rfl,O.o⟩,B.o⟩
   |false=>
    have G:Hid (R=done s.size []):=by show _=_;rw[A.o,hE];rfl
    clear A HE;cases hd:R with
    |  none=>
       go_wp2_with fail
       refine Quietly.Hz 42 (by kernel_rfl) (by kernel_rfl) ?_;intro X F hN c hF;have f1:∀z,(F z).cell? ⟨w3.heap.size,0,none⟩=some (.int .i64 (a:Int)):=fun z=>upc (c z) q0;have f2:∀z,(F z).cell? ⟨w3.heap.size,1,none⟩=some (.int .i64 ((a:Int)+(b:Int))):=fun z=>upc (c z) q1;have f3:∀z,(F z).cell? ⟨mm,0,none⟩=some (.string s):=fun z=>upc (c z) Q;simp only[List.take_succ_cons,List.take_zero];repeat go_big_quiet_step (fail)
       refine wpQuiet_nil ?_;intro z;simp only[List.drop_succ_cons,List.drop_zero];have u:=qh (c z);go_wp2_with (first
         | (go_at_call 165
            (refine (Ed ⟨w.heap.size+1+1,0,none⟩ _ _ _ _ _).mono ?_);rintro e5 w5 ⟨rfl,J⟩;have d:=Ab u.o J;have j:=N.o.stays d;have E:=qh j;have q:=qh (r.o.trans (d.mono r.o.size));have o5:=j.cell;clear j J d))
       go_wp2_with (first
       | (go_at_call 172
          (refine (y.o _ [] _ q.o E.o.2.lies (by simp) (GP.nil _ _)).mono ?_);rintro U w9 ⟨I,D⟩;rw[<- G.o,hd]at I;obtain rfl:U=.panicked [{v:=Value.iface 184 (.agg #[]),recovered:=false}]:=I;have B:=qh (Ab q.o D)))
       refine⟨rfl,?_⟩;try rw[hd]
       exact⟨rfl,B.o⟩
    |  some m9=>
       go_wp2_with fail
       refine Quietly.Hz 42 (by kernel_rfl) (by kernel_rfl) ?_;intro X F hN c hF;have f1:∀z,(F z).cell? ⟨w3.heap.size,0,none⟩=some (.int .i64 (a:Int)):=fun z=>upc (c z) q0;have f2:∀z,(F z).cell? ⟨w3.heap.size,1,none⟩=some (.int .i64 ((a:Int)+(b:Int))):=fun z=>upc (c z) q1;have f3:∀z,(F z).cell? ⟨mm,0,none⟩=some (.string s):=fun z=>upc (c z) Q;simp only[List.take_succ_cons,List.take_zero];repeat go_big_quiet_step (fail)
       refine wpQuiet_nil ?_;intro z;simp only[List.drop_succ_cons,List.drop_zero];have u:=qh (c z);go_wp2_with (first
         | (go_at_call 165
            (refine (Ed ⟨w.heap.size+1+1,0,none⟩ _ _ _ _ _).mono ?_);rintro e5 w5 ⟨rfl,J⟩;have d:=Ab u.o J;have j:=N.o.stays d;have E:=qh j;have q:=qh (r.o.trans (d.mono r.o.size));have o5:=j.cell;clear j J d))
       go_wp2_with (first
       | (go_at_call 172
          (refine (y.o _ [] _ q.o E.o.2.lies (by simp) (GP.nil _ _)).mono ?_);rintro U w9 ⟨I,D⟩;rw[<- G.o,hd]at I;obtain⟨v9,rfl,K⟩:=I;have O:=qh (K.mono (show w.heap.size<=_ from (q.o).size));have B:=qh (Ab q.o D);clear K))
       go_ret;try rw[hd]
       exact⟨⟨_,rfl,O.o⟩,B.o⟩
  ·have e4:decide ((i:Int)+(b:Int)<=(s.size:Int))=false:=by simp;omega
   have G:Hid (R=done s.size []):=by
    show _=_;rw[A.o,if_neg];unfold Ex;simp only;rw[T.o];simp only[Int.toNat_natCast,decide_eq_true_eq];omega
   clear A;cases hd:R with
   |none=>
    go_wp2_with fail
    refine Quietly.Hz 42 (by kernel_rfl) (by kernel_rfl) ?_;intro X F hN c hF;have f1:∀z,(F z).cell? ⟨w3.heap.size,0,none⟩=some (.int .i64 (a:Int)):=fun z=>upc (c z) q0;have f2:∀z,(F z).cell? ⟨w3.heap.size,1,none⟩=some (.int .i64 ((a:Int)+(b:Int))):=fun z=>upc (c z) q1;have f3:∀z,(F z).cell? ⟨mm,0,none⟩=some (.string s):=fun z=>upc (c z) Q;simp only[List.take_succ_cons,List.take_zero];repeat go_big_quiet_step (fail)
    refine wpQuiet_nil ?_;intro z;simp only[List.drop_succ_cons,List.drop_zero];have u:=qh (c z);go_wp2_with (first
       | (go_at_call 165
          (refine (Ed ⟨w.heap.size+1+1,0,none⟩ _ _ _ _ _).mono ?_);rintro e5 w5 ⟨rfl,J⟩;have d:=Ab u.o J;have j:=N.o.stays d;have E:=qh j;have q:=qh (r.o.trans (d.mono r.o.size));have o5:=j.cell;clear j J d))
    go_wp2_with (first
    | ( go_at_call 172
        (refine (y.o _ [] _ q.o E.o.2.lies (by simp) (GP.nil _ _)).mono ?_);rintro U w9 ⟨I,D⟩;rw[<- G.o,hd]at I;obtain rfl:U=.panicked [{v:=Value.iface 184 (.agg #[]),recovered:=false}]:=I;have B:=qh (Ab q.o D)))
    refine⟨rfl,?_⟩;try rw[hd]
    exact⟨rfl,B.o⟩
   |some m9=>
    go_wp2_with fail
    refine Quietly.Hz 42 (by kernel_rfl) (by kernel_rfl) ?_;intro X F hN c hF;have f1:∀z,(F z).cell? ⟨w3.heap.size,0,none⟩=some (.int .i64 (a:Int)):=fun z=>upc (c z) q0;have f2:∀z,(F z).cell? ⟨w3.heap.size,1,none⟩=some (.int .i64 ((a:Int)+(b:Int))):=fun z=>upc (c z) q1;have f3:∀z,(F z).cell? ⟨mm,0,none⟩=some (.string s):=fun z=>upc (c z) Q;simp only[List.take_succ_cons,List.take_zero];repeat go_big_quiet_step (fail)
    refine wpQuiet_nil ?_;intro z;simp only[List.drop_succ_cons,List.drop_zero];have u:=qh (c z);go_wp2_with (first
       | (go_at_call 165
          (refine (Ed ⟨w.heap.size+1+1,0,none⟩ _ _ _ _ _).mono ?_);rintro e5 w5 ⟨rfl,J⟩;have d:=Ab u.o J;have j:=N.o.stays d;have E:=qh j;have q:=qh (r.o.trans (d.mono r.o.size));have o5:=j.cell;clear j J d))
    go_wp2_with (first
    | ( go_at_call 172
        (refine (y.o _ [] _ q.o E.o.2.lies (by simp) (GP.nil _ _)).mono ?_);rintro U w9 ⟨I,D⟩;rw[<- G.o,hd]at I;obtain⟨v9,rfl,K⟩:=I;have O:=qh (K.mono (show w.heap.size<=_ from (q.o).size));have B:=qh (Ab q.o D);clear K))
    go_ret;try rw[hd]
    exact⟨⟨_,rfl,O.o⟩,B.o⟩
end ReMem
namespace ReMem
open Go Go.RowKit MatchMath
theorem progPar_any (s:ByteArray) (r:Bool) (k:Nat) (q:s.size<=4096) (x:k<=4096):∀n,n<=101->Fm s r k n:=by
 intro n
 induction n with
 | zero=>intro _ e v u i l t w d;omega
 |succ n ih=>
  intro G e v u i l t w d c b y B j m hi z C;have A:=ih (by omega);have a:size e<=100:=by omega
  have E:shaped e=true:=by
   obtain⟨o,p,lo,h,g,args⟩:=e;unfold gok at c;simp only[Bool.and_eq_true]at c;exact c.1.1
  have D:e.op=1\/e.op=2\/e.op=3\/e.op=4\/e.op=5\/e.op=6\/e.op=7\/e.op=8\/e.op=9:=by
   obtain⟨o,p,lo,h,g,args⟩:=e;have:=Dh E;simp only[Re.op];omega
  rcases D with h | h | h | h | h | h | h | h | h
  · exact parP1_any s r k n A e h v u i l t w d a c b y B j m hi z C q x
  · exact parP2_any s r k n A e h v u i l t w d a c b y B j m hi z C q x
  · exact parP3_any s r k n A e h v u i l t w d a c b y B j m hi z C q x
  · exact parP4_any s r k n A e h v u i l t w d a c b y B j m hi z C q x
  · exact parP5_any s r k n A e h v u i l t w d a c b y B j m hi z C q x
  · exact parP6_any s r k n A e h v u i l t w d a c b y B j m hi z C q x
  · exact parP7_any s r k n A e h v u i l t w d a c b y B j m hi z C q x
  · exact parP8_any s r k n A e h v u i l t w d a c b y B j m hi z C q x
  · exact parP9_any s r k n A e h v u i l t w d a c b y B j m hi z C q x
end ReMem
namespace ReMem
open Go Go.RowKit MatchMath
theorem catch_idle (c d:Addr) (w:World):
  CallsD Tryz.prog 125 #[.pointer (some c),.pointer (some d)] .returning w fun e u' w'=>e=.returned (.tuple #[])/\u'=.returning/\w'=w:=by
 refine callsD_of_wpS func125 rfl fun a g b=>?_;apply wpS_seq;apply wpS_region;simp[wpOpsS,go_sem,recoverD,b,ntmps125,Exit.thenS];refine wpS_of_wp ?_;go_wp2;cases a
 simp_all [bodyPostS,results,results125]
theorem assert_yes (W:World):(Instr.typeAssert (.iface 184 (.agg #[])) 20 184 true).run Tryz.prog W=.ok (.tuple #[.agg #[],.bool true]) W:=by kernel_rfl
theorem Uc (b c:Nat) (l:c≠b) (n m:Value) (a:List PanicEntry) (w:World) (d:w.heap[b]? =some (.cells #[n] 115)) (g:w.heap[c]? =some (.cells #[m] 4)):
  CallsD Tryz.prog 125 #[.pointer (some ⟨b,0,none⟩),.pointer (some ⟨c,0,none⟩)] (.panicking ({v:=.iface 184 (.agg #[]),recovered:=false}::a)) w fun e u' w'=>
   e=.returned (.tuple #[])/\u'=.panicking ({v:=.iface 184 (.agg #[]),recovered:=true}::a)/\w'=((w.alloc (.cells #[] 184)).setCell ⟨b,0,none⟩ (.slice none 0 0)).setCell ⟨c,0,none⟩ (.bool false):=by
 refine callsD_of_wpS func125 rfl fun o y t=>?_;apply wpS_seq;apply wpS_region;simp[wpOpsS,go_sem,recoverD,t,ntmps125,Exit.thenS];refine wpS_of_wp ?_;have r:=assert_yes;have h:=Ax (.cells #[] 184) d;have i:=Ax (.cells #[] 184) g;have p:(w.alloc (.cells #[] 184)).cell? ⟨b,0,none⟩=some n:=by rw[qc h];rfl
 have j:(w.alloc (.cells #[] 184)).cell? ⟨c,0,none⟩=some m:=by rw[qc i];rfl
 have u:(w.alloc (.cells #[] 184)).frozen? ⟨b,0,none⟩=false:=by unfold World.frozen?;rw[h];simp
 have x:((w.alloc (.cells #[] 184)).setCell ⟨b,0,none⟩ (.slice none 0 0)).frozen? ⟨c,0,none⟩=false:=by rw[World.frozen?_setCell];unfold World.frozen?;rw[i];simp
 have q:((w.alloc (.cells #[] 184)).setCell ⟨b,0,none⟩ (.slice none 0 0)).cell? ⟨c,0,none⟩=some m:=by rw[Ad (by simp[l])];exact j
 clear d g h i;go_wp2;cases o
 simp_all [bodyPostS,results,results125]
end ReMem
end Go.Proofs.YtjefcpjciogcjaaGreatDoor
