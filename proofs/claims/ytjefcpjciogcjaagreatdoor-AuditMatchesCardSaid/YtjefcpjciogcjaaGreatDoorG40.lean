/- The walk of AuditMatches: it returns true. No condition. -/
import Derived.Test.YtjefcpjciogcjaaGreatDoorG30
import Derived.Test.YtjefcpjciogcjaaGreatDoorG31
import Derived.Test.YtjefcpjciogcjaaGreatDoorCxAwake
import Derived.Deep.RegionHeld3
namespace Go.Proofs.YtjefcpjciogcjaaGreatDoor
set_option maxRecDepth 100000
set_option linter.unusedVariables false
set_option maxHeartbeats 8000000
open Tryz
namespace AuditMatchesWalk
open Go Go.RowKit MatchMath Strs ReMem
theorem awake_any (w:World):Calls Tryz.prog 6 #[] w fun e w'=>e=.returned (.bool true)/\qw w w':=Cx.awake_calls w
theorem regexP_any (p:ByteArray) (f a:Int) (e:Re) (v c:Value) (s:ByteArray) (l:List (List Span)) (w:World) (j:size e<=12) (b:Ag e) (h:Lies w v e.args) (i:MLies w c l) (g:s.size<=10) (d:l.length<=20) (m:Tabs w):
  Calls Tryz.prog 8 #[Bn p f a v e,.string s,c] w fun r w'=>(∃v',r=.returned v'/\KSame.Reps w' v' (Mz p f a e s l))/\qw w w':=by
 cases hv:Cd e a f p.size
 · exact regexP_bad p f a e v c s l w j b h i hv
 · exact regexP_good p f a e v c s l w j b h i g d hv m
theorem regexR_any (p:ByteArray) (f a:Int) (e:Re) (v c:Value) (s:ByteArray) (l:List (List Span)) (w:World) (j:size e<=12) (b:Ag e) (h:Lies w v e.args) (i:MLies w c l) (g:s.size<=10) (d:l.length<=20):
  Calls Tryz.prog 9 #[Bn p f a v e,.string s,c] w fun r w'=>(∃v',r=.returned v'/\KSame.Reps w' v' (Mz p f a e s l))/\qw w w':=by
 cases hv:Cd e a f p.size
 · exact regexR_bad p f a e v c s l w j b h i hv
 · exact regexR_good p f a e v c s l w j b h i g d hv
theorem not_false_of:∀ {b:Bool},(!b)=false->b=true:=by decide
theorem walk (p:ByteArray) (f d:Int) (e:Re) (v lv:Value) (s:ByteArray) (l:List (List Span)) (w:World) (m:Ag e) (V:Lies w v e.args) (X:MLies w lv l) (ht:Tabs w):
  Calls Tryz.prog 3 #[Bn p f d v e,.string s,lv] w fun r w'=>r=.returned (.bool true)/\qw w w':=by
 have A:=qh awake_any;have L:=qh (fun W (hw:qw w W)=>small_any e v W m (V.stays hw));have a9:=qh (fun W (hw:qw w W)=>few_any lv l W (X.stays hw));have E:=qh (fun W (hw:qw w W) (R:size e<=12) (S:s.size<=10) (h3:l.length<=20)=>regexP_any p f d e v lv s l W R m (V.stays hw) (X.stays hw) S h3 (ht.stays hw));have G:=qh (fun W (hw:qw w W) (R:size e<=12) (S:s.size<=10) (h3:l.length<=20)=>regexR_any p f d e v lv s l W R m (V.stays hw) (X.stays hw) S h3);have b2:=qh (fun a b W R S=>KSame.same_any a b (Mz p f d e s l) W R S);obtain⟨y,z,rfl⟩:=V.shape;obtain⟨la,lc,rfl⟩:=X.shape;have B:=qh (qb w (.cells (XA p f d e y z) 30));have M:=qh (RX.new w p f d (.slice y e.args.length z) e);obtain⟨c0,c1,c2,c3,c4,c5,c6,c7,c8,c9,h,i⟩:=M.o.facts;unfold Bn at E G ⊢;unfold Ac at L;clear V X m ht;go_enter func3,ntmps3;go_wp2_with (first
  | (go_at_call 4
     (refine (L.o _ B.o).mono ?_);rintro b6 w1 ⟨⟨z1,rfl,a4⟩,q⟩;have b4:=qh a4;have n:=qh (Ab B.o q);have N:=qh (M.o.stays q);clear q a4 c0 c1 c2 c3 c4 c5 c6 c7 c8 c9 h i;obtain⟨c0,c1,c2,c3,c4,c5,c6,c7,c8,c9,h,i⟩:=N.o.facts)
  | (go_at_call 5
     (refine (a9.o _ n.o).mono ?_);rintro b7 w2 ⟨⟨z2,rfl,a5⟩,t⟩;have b5:=qh a5;have c:=qh (Ab n.o t);have g:=qh (N.o.stays t);clear t a5 c0 c1 c2 c3 c4 c5 c6 c7 c8 c9 h i;obtain⟨c0,c1,c2,c3,c4,c5,c6,c7,c8,c9,h,i⟩:=g.o.facts)
  | (go_at_call 6
     (with_reducible refine (A.o _).mono ?_);rintro e5 w5 ⟨rfl,T⟩))
 all_goals
  first
  | (go_ret;exact⟨rfl,Ab n.o T⟩)
  | (go_ret;exact⟨rfl,Ab c.o T⟩)
  | (have a1:=b4.o (by first | assumption | rfl | exact not_false_of (by assumption))
     have hq:(s.size:Int)<=10/\(!z2)=false:=by assumption
     have a3:=b5.o (not_false_of hq.2);have a2:s.size<=10:=by omega
     have I:=qh a1;have J:=qh a2;have K:=qh a3;clear a1 a2 a3
     go_region_held3 (fun w'=>XS w' w.heap.size p f d e y z) (first | exact b3.o.facts | exact Q.o.facts | exact P.o.facts | exact O.o.facts | exact g.o.facts)
      (first
        | (go_at_call 8
           (refine (E.o _ (by first | exact c.o | exact c.o.drew) I.o J.o K.o).mono ?_)
           rintro e3 w3 ⟨⟨v3,rfl,Y⟩,j⟩;have C:Hid (qw w w3):=(by first | exact Ab c.o j | exact Ab c.o.drew j)
           have O:Hid (RX w3 w.heap.size p f d (.slice y e.args.length z) e):=(by first | exact g.o.stays j | exact (show RX w2.drew w.heap.size p f d (.slice y e.args.length z) e from g.o).stays j)
           have b0:=qh Y;clear Y)
        | (go_at_call 9
           (refine (G.o _ C.o I.o J.o K.o).mono ?_);rintro e4 w4 ⟨⟨v4,rfl,a0⟩,u⟩;have a6:=qh (Ab C.o u);have P:=qh (O.o.stays u);have b1:=qh a0;have D:=qh (reps_stays b0.o u);clear a0)
        | (go_at_call 7
           (with_reducible refine (b2.o v3 v4 _ D.o b1.o).mono ?_);rintro e7 w7 ⟨rfl,n7,x⟩;have a7:Hid (qw w w7):=(by rw[x];exact Base.Ba a6.o n7);have Q:Hid (RX w7 w.heap.size p f d (.slice y e.args.length z) e):=(by rw[x];exact P.o);clear x)
        | (go_at_call 6
           (with_reducible refine (A.o _).mono ?_);rintro e8 w8 ⟨rfl,U⟩;have a8:=qh (Ab a7.o U);have b3:=qh (Q.o.stays U)))
     all_goals go_wp2
     all_goals go_ret
     all_goals exact⟨rfl,a8.o⟩)
theorem whole (p:ByteArray) (f c:Int) (e:Re) (v:Value) (s:ByteArray) (b:Value) (l:List (List Span)) (w:World) (a:Ag e) (d:Lies w v e.args) (_hs:s.size<=maxLen) (g:MLies w b l) (h:Tabs w):
 Calls Tryz.prog 3 #[Bn p f c v e,.string s,b] w fun r w'=>r=.returned (.bool true)/\qw w w':=walk p f c e v b s l w a d g h
end AuditMatchesWalk
end Go.Proofs.YtjefcpjciogcjaaGreatDoor
