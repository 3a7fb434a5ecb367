/- Lemmas for the walk of the law, in 4 parts. No condition beyond what each states. -/
import Derived.Test.YtjefcpjciogcjaaGreatDoorG12
import Derived.Test.YtjefcpjciogcjaaGreatDoorProg
import Derived.Test.YtjefcpjciogcjaaGreatDoorG0
import Derived.WalkKit
import Derived.Handy
import Derived.WalkLawsBesides
import Derived.Outline
import Derived.Laws.BitsAllLaws
import Derived.Below
import Derived.Deep.CutBlock
import Derived.Deep.DeepCutAuto
import Derived.Test.YtjefcpjciogcjaaGreatDoorG13
namespace Go.Proofs.YtjefcpjciogcjaaGreatDoor
set_option maxRecDepth 100000
set_option linter.unusedVariables false
set_option maxHeartbeats 40000000
open Tryz
namespace ReMem
open Go Go.RowKit MatchMath Strs
theorem LBox.new (w:World) (s:ByteArray) (e:Bool) (o:Int) (i m n p:Nat) (l h g:Int) (d:Value) (b:Nat) (r:w.heap.size=b):
  LBox (w.alloc (.cells #[.string s,.bool e,.int .i64 o,.int .u64 i,.int .u64 m,.int .u64 n,.int .u64 p,.int .i64 l,.int .i64 h,.int .i64 g,d,.slice none 0 0,.slice none 0 0] 233)) b s e o i m n p l h g d (.slice none 0 0) (.slice none 0 0):=by
 subst r;have a:=heap_alloc_new w (.cells #[.string s,.bool e,.int .i64 o,.int .u64 i,.int .u64 m,.int .u64 n,.int .u64 p,.int .i64 l,.int .i64 h,.int .i64 g,d,.slice none 0 0,.slice none 0 0] 233);refine⟨?_,?_,?_,?_,?_,?_,?_,?_,?_,?_,?_,?_,?_,fun j=>?_,fun q fz c=>?_,(qd a)⟩
 any_goals (rw [qc a];rfl)
 ·unfold World.frozen?
  rw[a];simp
 ·rw[a]at c
  injection c with c;injection c with _ h1 _;exact absurd h1 (by decide)
theorem refRep_any (s:ByteArray) (b:Bool) (k n:Nat) (hp:Uv s b k n) (e t:Re) (z:e.args= [t]) (S:e.op=5) (V:size t<n) (P:gok k e=true) (A:Ag e) (v sv:Value) (i:Nat) (l:List Span) (w:World) (hl:Lies w v e.args) (Y:Al w sv l) (Q:l.length=k) (R:SpOk s.size l) (hi:i<=s.size) (U:s.size<=4096) (hk:k<=4096):
  Calls Tryz.prog 134 #[.agg #[.string s,.bool b],Ac v e,.int .i64 i,sv] w (RRes w ((Fu ((tx s b).parses t) (clear (Ap e)) e.lo e.hi i l).bind (done s.size))):=by
 have X:=qh (fun W (hW:qw w W) (hlb:LBox W (w.heap.size+1+1) s b e.op (Sets.Aa e.set 0) (Sets.Aa e.set 1) (Sets.Aa e.set 2) (Sets.Aa e.set 3) e.lo e.hi e.group v (.slice none 0 0) (.slice none 0 0))=>refVisit_any s b k n hp e t z S V P A (w.heap.size+1+1) v w hl (by omega) U hk (most+1) 0 (i,l) sv ([],[]) (.slice none 0 0) (.slice none 0 0) W (by simp) (Nat.zero_le _) ql (by omega) (by omega) hW hlb (SRow.nil _ _) (PRow.nil _ _) (Y.stays hW) Q R hi);have C:=qh (fun v l W=>Jr s b v l W U);have L:=qh (fun a (h:visit ((tx s b).parses t) (clear (Ap e)) e.lo e.hi (most+1) 0 (i,l) ([],[])=some a)=>And.intro (Ks e.lo e.hi (most+1) 0 (i,l) ([],[]) a (Nat.zero_le _) h).2 (Hw e.lo e.hi 0 (most+1) 0 0 (i,l) ([],[]) a ql h));have y:Hid (Fu ((tx s b).parses t) (clear (Ap e)) e.lo e.hi i l=(visit ((tx s b).parses t) (clear (Ap e)) e.lo e.hi (most+1) 0 (i,l) ([],[])).map (·.2)):=rfl;obtain⟨I,J,rfl⟩:=hl.shape;obtain⟨sa,sc,rfl⟩:=Y.shape;have a7:=Y.len.2;clear hl Y Q R hp z S V P A;unfold Ac;generalize Fu ((tx s b).parses t) (clear (Ap e)) e.lo e.hi i l=RA at*;generalize clear (Ap e)=clr at*;generalize e.op=o at*;generalize e.lo=lo at*;generalize e.hi=hi' at*;generalize e.group=g at*;generalize Sets.Aa e.set 0=x0 at*;generalize Sets.Aa e.set 1=x1 at*;generalize Sets.Aa e.set 2=x2 at*;generalize Sets.Aa e.set 3=x3 at*;have c:=qh ((((qb w (.cells #[.string s,.bool b] 153)).alloc (by simp) (.cells #[.int .i64 o,.int .u64 x0,.int .u64 x1,.int .u64 x2,.int .u64 x3,.int .i64 lo,.int .i64 hi',.int .i64 g,.slice I e.args.length J] 28)).alloc (by simp;omega) (.cells #[.string s,.bool b,.int .i64 o,.int .u64 x0,.int .u64 x1,.int .u64 x2,.int .u64 x3,.int .i64 lo,.int .i64 hi',.int .i64 g,.slice I e.args.length J,.slice none 0 0,.slice none 0 0] 233)))
 have a5:=qh ((TBox.new w s b 153).chg ((Chg.alloc (fun _=>False) (w.alloc (.cells #[.string s,.bool b] 153)) (.cells #[.int .i64 o,.int .u64 x0,.int .u64 x1,.int .u64 x2,.int .u64 x3,.int .i64 lo,.int .i64 hi',.int .i64 g,.slice I e.args.length J] 28)).trans (Chg.alloc (fun _=>False) _ (.cells #[.string s,.bool b,.int .i64 o,.int .u64 x0,.int .u64 x1,.int .u64 x2,.int .u64 x3,.int .i64 lo,.int .i64 hi',.int .i64 g,.slice I e.args.length J,.slice none 0 0,.slice none 0 0] 233)) (fun _ _ h=>h)) (fun h=>h));have M:=qh (LBox.new ((w.alloc (.cells #[.string s,.bool b] 153)).alloc (.cells #[.int .i64 o,.int .u64 x0,.int .u64 x1,.int .u64 x2,.int .u64 x3,.int .i64 lo,.int .i64 hi',.int .i64 g,.slice I e.args.length J] 28)) s b o x0 x1 x2 x3 lo hi' g (.slice I e.args.length J) (w.heap.size+1+1) (by simp));cases hv:visit ((tx s b).parses t) clr lo hi' (most+1) 0 (i,l) ([],[]) with
 |none=>
  have a4:Hid (RA.bind (done s.size)=none):=by show _=_;rw[y.o,hv];rfl
  rw[hv]at X;clear hv;go_enter func134,ntmps134
  go_wp2_with (go_at_call 173
               (refine (X.o _ c.o M.o).mono ?_);rintro e1 j ⟨N,r⟩;obtain rfl:=N;have m:=qh (c.o.trans (r.below c.o.size (fun k hk e=>by
                rcases e with e | e | e
                · omega
                · cases e
                · cases e))))
  go_ret2;rw[a4.o];exact⟨rfl,m.o⟩
 |some a=>
  have a2:=qh (L.o a hv);have x:Hid (RA.bind (done s.size)=done s.size a.2):=by show _=_;rw[y.o,hv];rfl
  rw[hv]at X;clear hv;go_enter func134,ntmps134
  go_wp2_with (go_at_call 173
               (refine (X.o _ c.o M.o).mono ?_);rintro e1 j ⟨N,r⟩;obtain⟨rfl,a9,a8,B,T,u, -, -⟩:=N;have m:=qh (c.o.trans (r.below c.o.size (fun k hk e=>by
                rcases e with e | e | e
                · omega
                · cases e
                · cases e)))
               have a6:=a5.o.chg r (fun e=>by
                rcases e with e | e | e
                · omega
                · cases e
                · cases e)
               obtain⟨t0,t1, -⟩:=a6;have l12:=B.l12;have a3:=qh u;obtain⟨D,E,rfl⟩:=u.form;clear B T u r)
  have K:=qh (fun W (hW:qw j W)=>C.o (.slice D (An [] a.2).length E) (An [] a.2) W (a3.o.lies.stays hW) (by have N:=Et a.2 [];simp only[List.length_nil,Nat.zero_add]at N;have:=a2.o;unfold most at this;omega) (Ih List.nodup_nil _));have a0:Hid (done s.size (An [] a.2)=done s.size a.2):=done_dd s.size a.2;rw[a0.o]at K;have d:=qh (fun W (hw:qw j W)=>And.intro (up9 hw t0) (And.intro (up9 hw t1) (up9 hw l12)));cases hd:done s.size a.2 with
  |none=>
   rw[hd]at K x;clear hd;go_wp2
   go_region_held3 (fun G=>G.cell? ⟨w.heap.size,0,none⟩=some (.string s)/\G.cell? ⟨w.heap.size,1,none⟩=some (.bool b)/\G.cell? ⟨w.heap.size+1+1,12,none⟩=some (.slice D (An [] a.2).length E)) (first | exact d.o _ (Below.refl _ _) | exact d.o _ ((Below.refl _ j).drew) | exact d.o _ p.o)
    (first
    | (go_at_call 135
       (refine (K.o _ (by first | exact (Below.refl _ j).drew | exact Below.refl _ j)).mono ?_)
       rintro e2 w2 ⟨h2,q⟩;obtain rfl:=h2;have p:Hid (qw j w2):=(by first | exact Ab ((Below.refl _ j).drew) q | exact q)))
   all_goals go_wp2
   all_goals go_ret2
   all_goals
    rw[x.o];exact⟨rfl,Ab m.o p.o⟩
  |some dl=>
   rw[hd]at K x;clear hd;go_wp2
   go_region_held3 (fun G=>G.cell? ⟨w.heap.size,0,none⟩=some (.string s)/\G.cell? ⟨w.heap.size,1,none⟩=some (.bool b)/\G.cell? ⟨w.heap.size+1+1,12,none⟩=some (.slice D (An [] a.2).length E)) (first | exact d.o _ (Below.refl _ _) | exact d.o _ ((Below.refl _ j).drew) | exact d.o _ p.o)
    (first
    | (go_at_call 135
       (refine (K.o _ (by first | exact (Below.refl _ j).drew | exact Below.refl _ j)).mono ?_)
       rintro e2 w2 ⟨h2,q⟩;obtain⟨dv,rfl,O⟩:=h2;have a1:=qh (O.mono (show w.heap.size<=_ from m.o.size));have p:Hid (qw j w2):=(by first | exact Ab ((Below.refl _ j).drew) q | exact q)
       clear O))
   all_goals go_wp2
   all_goals go_ret2
   all_goals
    rw[x.o];exact⟨⟨_,rfl,a1.o⟩,Ab m.o p.o⟩
end ReMem
namespace CharHas
open Go Go.RowKit
theorem cells_at (w:World) (p:Nat->Bool) (t:TypeId) (j:Nat) (a:j<4):
  (w.alloc (.cells #[.int .u64 (Sets.Aa p 0:Nat),.int .u64 (Sets.Aa p 1:Nat),.int .u64 (Sets.Aa p 2:Nat),.int .u64 (Sets.Aa p 3:Nat)] t)).cell? ⟨w.heap.size,j,none⟩=some (.int .u64 (Sets.Aa p j:Nat)):=by
 have h:j=0\/j=1\/j=2\/j=3:=by omega
 rcases h with rfl | rfl | rfl | rfl <;> simp[World.cell?,World.alloc, -World.alloc_eq]
theorem bit_test (p:Nat->Bool) (c:Nat):(bits .and .u64 ((Sets.Aa p (c/64):Int)/2^(c%64)) 1==1)=p c:=by
 have g:=Sets.Eb p (c/64);have a:=Sets.Bq p (c/64) (c%64);rw[show 64*(c/64)+c%64=c from by omega]at a;have b:c%64<64:=by omega
 simp only[b,decide_true,Bool.true_and]at a;rw[<- a,Nat.testBit_eq_decide_div_mod_eq];have d:((Sets.Aa p (c/64):Int)/2^(c%64))=((Sets.Aa p (c/64)/2^(c%64):Nat):Int):=by
  rw[Int.natCast_ediv,Int.natCast_pow];rfl
 have h:Sets.Aa p (c/64)/2^(c%64)<18446744073709551616:=Nat.lt_of_le_of_lt (Nat.div_le_self _ _) g;have e:=u64_and_nat (Sets.Aa p (c/64)/2^(c%64)) 1 h (by decide);rw[d,show (1:Int)=((1:Nat):Int) from rfl,e,show (1:Nat)=2^1-1 from rfl,Nat.and_two_pow_sub_one_eq_mod];rw[Bool.eq_iff_iff,beq_iff_eq,decide_eq_true_iff];omega
theorem has_any (p:Nat->Bool) (c:Nat) (w:World) (b:c<256):
  Calls Tryz.prog 166 #[.agg #[.int .u64 (Sets.Aa p 0:Nat),.int .u64 (Sets.Aa p 1:Nat),.int .u64 (Sets.Aa p 2:Nat),.int .u64 (Sets.Aa p 3:Nat)],.int .u8 (c:Int)] w fun e w'=>e=.returned (.bool (p c))/\qw w w':=by
 have a:=cells_at w p 25 (c/64) (by omega);have g:=Sets.Eb p (c/64);have d:c/64<4:=by omega
 have h:=bit_test p c;go_enter func166,ntmps166;go_wp2;go_ret;exact⟨rfl,(Below.refl _ _).alloc ql _⟩
theorem Ln (p:Nat->Bool) (c:Nat) (w:World) (b:c<256):
  Calls Tryz.prog 128 #[.agg #[.int .u64 (Sets.Aa p 0:Nat),.int .u64 (Sets.Aa p 1:Nat),.int .u64 (Sets.Aa p 2:Nat),.int .u64 (Sets.Aa p 3:Nat)],.int .u8 (c:Int)] w fun e w'=>e=.returned (.bool (p c))/\qw w w':=by
 have a:=cells_at w p 25 (c/64) (by omega);have g:=Sets.Eb p (c/64);have d:c/64<4:=by omega
 have h:=bit_test p c;go_enter func128,ntmps128;go_wp2;go_ret;exact⟨rfl,(Below.refl _ _).alloc ql _⟩
end CharHas
namespace ReMem
open Go Go.RowKit MatchMath Strs
theorem size_pos (e:Re):1<=size e:=by obtain⟨o,s,l,h,g,args⟩:=e;rw[size];omega
theorem Ea:∀l:List Re,l.length<=sizes l
 | []=>ql
 |x::r=>by
  have:=Ea r;have:=size_pos x;rw[sizes,List.length_cons];omega
theorem Dh {o:Int} {p:Nat->Bool} {l h g:Int} {args:List Re} (a:shaped (.mk o p l h g args)=true):((o=1\/o=2\/o=7\/o=8\/o=9)/\args= [])\/o=3\/o=4\/(o=5/\∃t,args= [t])\/(o=6/\∃t,args= [t]):=by
 have one:∀(l:List Re),l.length=1->∃t,l= [t]:=fun l h=>List.length_eq_one_iff.1 h;unfold shaped at a;simp only at a;split at a
 ·rename_i e
  simp only[Bool.and_eq_true,decide_eq_true_eq]at a;exact .inl ⟨by omega,List.eq_nil_of_length_eq_zero a.1.1.1⟩
 ·split at a
  ·simp only[Bool.and_eq_true,decide_eq_true_eq]at a
   exact .inl ⟨by omega,List.eq_nil_of_length_eq_zero a.1.1.1⟩
  ·split at a
   ·rename_i b
    rcases b with b | b
    · exact .inr (.inl b)
    · exact .inr (.inr (.inl b))
   ·split at a
    ·rename_i c
     simp only[Bool.and_eq_true,decide_eq_true_eq]at a;exact .inr (.inr (.inr (.inl ⟨c,one _ a.1.1⟩)))
    ·split at a
     ·rename_i d
      simp only[Bool.and_eq_true,decide_eq_true_eq]at a;exact .inr (.inr (.inr (.inr ⟨d,one _ a.1.1⟩)))
     ·split at a
      ·simp only[Bool.and_eq_true,decide_eq_true_eq]at a
       exact .inl ⟨by omega,List.eq_nil_of_length_eq_zero a.1.1⟩
      · cases a
theorem Xl (s:ByteArray) (a:Bool) (p:Nat->Bool) {i:Nat} (h:i<s.size):(tx s a).hasAt p i=p s[i].toNat:=by
 show (match s.data.toList[i]? with | some b=>p b.toNat | none=>false)=_;rw[at_some s h]
theorem Tv (s:ByteArray) (a:Bool) (p:Nat->Bool) {i:Nat} (h:¬i<s.size):(tx s a).hasAt p i=false:=by
 show (match s.data.toList[i]? with | some b=>p b.toNat | none=>false)=_;rw[List.getElem?_eq_none (by rw[Ce];omega)]
theorem tx_back (s:ByteArray) (c:Bool) (l:List Span) {m:Nat} {a b:Int} (i:Nat) (d:l[m]? =some (a,b)):(tx s c).back ((m:Int)+1) i l=if Ex s (a,b) i=true then [(i+(b-a).toNat,l)] else []:=by
 unfold Text.back Ex;rw[show ((m:Int)+1).toNat-1=m from by omega,d];simp only[decide_eq_true_eq];have e:(tx s c).s.length=s.size:=Ce s;rw[e];rfl
theorem Fh (x:Parse):addU [] x= [x]:=by simp[addU]
theorem RRes.two {w a:World} {o:Option (List Parse)} {r:Ending} (h:RRes w o r a):∃dv b,r=.returned (.tuple #[dv,.bool b])/\(∀w0:World,w0.heap.size<=w.heap.size->qw w0 a->RRes w0 o (.returned (.tuple #[dv,.bool b])) a)/\qw w a:=by
 obtain⟨d,g⟩:=h;cases o with
 | none=>exact⟨_,_,d,fun w0 i c=>⟨rfl,c⟩,g⟩
 |some l=>
  obtain⟨v,e,hr⟩:=d;exact⟨_,_,e,fun w0 i c=>⟨⟨_,rfl,hr.mono i⟩,c⟩,g⟩
theorem Yk (s:ByteArray) (G:Bool) (k:Nat) (e4:s.size<=4096) (hk:k<=4096):∀n,n<=101->Uv s G k n:=by
 intro n
 induction n with
 | zero=>intro _ e v sv i l w o3;omega
 |succ n ih=>
  intro hn e v sv i l w o3 g6 n4 hl hs f6 f7 hi;have hp:=ih (by omega);have n6:=g6;have f1:=qh (fun (t:Re) (W:World) (harg:e.args= [t]) (hop:e.op=5) (hst:size t<n) (hW:qw w W)=>refRep_any s G k n hp e t harg hop hst n6 n4 v sv i l W (hl.stays hW) (hs.stays hW) f6 f7 hi e4 hk);obtain⟨o,p,lo,h,g,args⟩:=e;unfold gok at g6;simp only[Bool.and_eq_true]at g6;obtain⟨⟨o2,s0,g7⟩,i5⟩:=g6;have b7:∀t∈args,size t<n:=fun t ht=>by have:=Bo (e:=.mk o p lo h g args) ht;omega
  have q6:args.length<=100:=by have h1:=Ea args;rw[size]at o3;omega
  have j9:=qh (fun W (hW:qw w W)=>refCat_any s G k n hp args v sv i l W b7 i5 (hl.stays hW) (hs.stays hW) f6 f7 hi e4);have j6:=qh (fun W (hW:qw w W)=>refAlt_any s G k n hp args v sv i l W b7 i5 (hl.stays hW) (hs.stays hW) f6 f7 hi e4 q6);have k0:=qh hp;have b2:=qh (fun W (hW:qw w W) (j:Nat)=>Iy (.slice none 0 0) sv [] (j,l) w.heap.size W (PRow.nil _ _) (hs.stays hW) hW.size (by simp));have i0:=qh Iy;have a5:=qh (fun v L W=>Jr s G v L W e4);have i1:=qh (fun op W=>refHolds_any s G op i W hi (by omega));have d:Hid ((tx s G).parses (.mk o p lo h g args) i l=(tx s G).node o p lo h g (Ap (.mk o p lo h g args)) ((tx s G).parsesL args) i l):=by show _=_;rw[Text.parses]
  have Y:(tx s G).s.length=s.size:=Ce s;have HS:=qh hs;have HL:=qh hl;have g3:=qh f7;have g2:=qh f6;have r8:=qh e4;have o0:=Dh o2;obtain⟨va,vc,rfl⟩:=hl.shape;obtain⟨sa,sc,rfl⟩:=hs.shape;have r5:=hs.len.2;have s5:(i:Int)<=(s.size:Int):=by omega
  have s9:(s.size:Int)<=4096:=by omega
  have r9:args.length<=9223372036854775807:=by omega
  try unfold Ac at f1
  unfold Ac;simp only[Re.op,Re.set,Re.lo,Re.hi,Re.group,Re.args]at*;obtain⟨R,hR⟩:∃R,(tx s G).parses (.mk o p lo h g args) i l=R:=⟨_,rfl⟩;rw[hR]at d ⊢;clear hR hs hl f7 o2 e4 f6;have g9:=qh (fun (c:Nat) W (hc:c<256)=>CharHas.Ln p c W hc);generalize hx0:Sets.Aa p 0=x0 at*;generalize hx1:Sets.Aa p 1=x1 at*;generalize hx2:Sets.Aa p 2=x2 at*;generalize hx3:Sets.Aa p 3=x3 at*;clear hx0 hx1 hx2 hx3;have D:=qh ((qb w (.cells #[.string s,.bool G] 153)).alloc (by simp) (.cells #[.int .i64 o,.int .u64 x0,.int .u64 x1,.int .u64 x2,.int .u64 x3,.int .i64 lo,.int .i64 h,.int .i64 g,.slice va args.length vc] 28));have HT:=qh ((TBox.new w s G 153).chg (Chg.alloc (fun _=>False) _ (.cells #[.int .i64 o,.int .u64 x0,.int .u64 x1,.int .u64 x2,.int .u64 x3,.int .i64 lo,.int .i64 h,.int .i64 g,.slice va args.length vc] 28)) (fun h=>h));have HX:=qh (Box9.newS (w.alloc (.cells #[.string s,.bool G] 153)) (w.heap.size+1) o x0 x1 x2 x3 lo h g (.slice va args.length vc) 28 (by simp));have g0:=qh (fun v W (hP:PLies W v [])=>a5.o v [] W hP (Nat.zero_le _) List.nodup_nil);have g1:=qh (fun v W (x:Parse) (hP:PLies W v [x])=>a5.o v [x] W hP (by simp) (by simp));rcases o0 with ⟨rfl | rfl | h7 | h7 | rfl,rfl⟩ | rfl | rfl | ⟨rfl,t,rfl⟩ | ⟨rfl,t,rfl⟩
  ·have u:Hid (R=done s.size [(i,l)]):=by show _=_;rw[d.o];unfold Text.node;simp only[if_true];rw[Y]
   have a6:=qh (fun v W (hP:PLies W v [(i,l)])=>g1.o v W (i,l) hP);go_enter func89,ntmps89;go_wp2_with (first
     | (go_at_call 127
        (refine (b2.o _ D.o i).mono ?_);rintro e1 w1 ⟨⟨nv,rfl,E, -⟩,a1⟩;rw[Fh]at E;have P:=a1.below ql (fun k _ e=>by cases e);have S:=qh (Ab D.o P);have f0:=qh E.lies;obtain⟨t0,t1, -⟩:=HT.o.stays P;obtain⟨na,nc,rfl⟩:=E.form;clear E a1 P)
     | (go_at_call 135
        (refine (a6.o _ _ f0.o).mono ?_);rintro e9 w9 J;obtain⟨dv,db,rfl,I,a⟩:=J.two;have B:=qh (Ab S.o a);have C:=qh (I w S.o.size B.o);clear I J a))
   go_ret2;rw[u.o];exact C.o
  ·simp only[List.length_nil]at D HT HX ⊢
   by_cases hlt:i<s.size
   · have r3:(i:Int)< (s.size:Int):=by omega
     have n2:s[i].toNat<256:=UInt8.toNat_lt _;cases hB:p s[i].toNat with
     | true=>
       have u:Hid (R=done s.size [(i+1,l)]):=by show _=_;rw[d.o];unfold Text.node;simp only[(by decide:¬(2:Int)=1),if_false,if_true];rw[Xl s G p hlt,hB,Y];rfl
       have i2:Hid (∀W,Calls Tryz.prog 128 #[.agg #[.int .u64 x0,.int .u64 x1,.int .u64 x2,.int .u64 x3],.int .u8 (s[i].toNat:Int)] W fun r T=>r=.returned (.bool true)/\qw W T):=fun W=>by have h1:=g9.o s[i].toNat W n2;rw[hB]at h1;exact h1
       have a6:=qh (fun v W (hP:PLies W v [(i+1,l)])=>g1.o v W (i+1,l) hP);clear hB;go_enter func89,ntmps89
       go_upto_region 6 with fail
       generalize (w.alloc (.cells #[.string s,.bool G] 153)).alloc (.cells #[.int .i64 2,.int .u64 x0,.int .u64 x1,.int .u64 x2,.int .u64 x3,.int .i64 lo,.int .i64 h,.int .i64 g,.slice va 0 vc] 28)=W0 at D HT HX ⊢;obtain⟨-,d1,d2,d3,d4, -, -, -, -, -⟩:=HX.o;obtain⟨t0, -, -⟩:=HT.o;have O:=qh (fun W (A:qw W0 W)=>And.intro (up9 A t0) (And.intro (up9 A d1) (And.intro (up9 A d2) (And.intro (up9 A d3) (up9 A d4)))))
       go_region_held3 (fun T=>T.cell? ⟨w.heap.size,0,none⟩=some (.string s)/\T.cell? ⟨w.heap.size+1,1,none⟩=some (.int .u64 x0)/\T.cell? ⟨w.heap.size+1,2,none⟩=some (.int .u64 x1)/\T.cell? ⟨w.heap.size+1,3,none⟩=some (.int .u64 x2)/\T.cell? ⟨w.heap.size+1,4,none⟩=some (.int .u64 x3)) (first | exact O.o _ (Below.refl _ _) | exact O.o _ ((Below.refl _ W0).drew) | exact O.o _ N.o)
         (first
         | (go_at_call 128
            (refine (i2.o _).mono ?_);rintro e2 w2 ⟨rfl,f4⟩;have N:Hid (qw W0 w2):=(by first | exact Ab ((Below.refl _ W0).drew) f4 | exact f4)
            have Q:=qh (Ab D.o N.o)))
       all_goals go_wp2_with (first
         | (go_at_call 127
            have ha:=b2.o _ Q.o (i+1);rw[show ((i+1:Nat):Int)=(i:Int)+1 from by omega]at ha;(refine ha.mono ?_);clear ha;rintro e1 w1 ⟨⟨nv,rfl,E, -⟩,a1⟩;rw[Fh]at E;have P:=a1.below ql (fun k _ e=>by cases e);have S:=qh (Ab Q.o P);have f0:=qh E.lies;have i3:=qh ((HT.o.stays N.o).stays P);obtain⟨u0,u1, -⟩:=i3.o;obtain⟨na,nc,rfl⟩:=E.form;clear E a1 P)
         | (go_at_call 135
            (refine (a6.o _ _ f0.o).mono ?_);rintro e9 w9 J;obtain⟨dv,db,rfl,I,a⟩:=J.two;have B:=qh (Ab S.o a);have C:=qh (I w S.o.size B.o);clear I J a))
       all_goals go_ret2
       all_goals
         rw[u.o];exact C.o
     | false=>
       have u:Hid (R=done s.size []):=by show _=_;rw[d.o];unfold Text.node;simp only[(by decide:¬(2:Int)=1),if_false,if_true];rw[Xl s G p hlt,hB,Y];rfl
       have i2:Hid (∀W,Calls Tryz.prog 128 #[.agg #[.int .u64 x0,.int .u64 x1,.int .u64 x2,.int .u64 x3],.int .u8 (s[i].toNat:Int)] W fun r T=>r=.returned (.bool false)/\qw W T):=fun W=>by have h1:=g9.o s[i].toNat W n2;rw[hB]at h1;exact h1
       clear hB;go_enter func89,ntmps89
       go_upto_region 6 with fail
       generalize (w.alloc (.cells #[.string s,.bool G] 153)).alloc (.cells #[.int .i64 2,.int .u64 x0,.int .u64 x1,.int .u64 x2,.int .u64 x3,.int .i64 lo,.int .i64 h,.int .i64 g,.slice va 0 vc] 28)=W0 at D HT HX ⊢;obtain⟨-,d1,d2,d3,d4, -, -, -, -, -⟩:=HX.o;obtain⟨t0, -, -⟩:=HT.o;have O:=qh (fun W (A:qw W0 W)=>And.intro (up9 A t0) (And.intro (up9 A d1) (And.intro (up9 A d2) (And.intro (up9 A d3) (up9 A d4)))))
       go_region_held3 (fun T=>T.cell? ⟨w.heap.size,0,none⟩=some (.string s)/\T.cell? ⟨w.heap.size+1,1,none⟩=some (.int .u64 x0)/\T.cell? ⟨w.heap.size+1,2,none⟩=some (.int .u64 x1)/\T.cell? ⟨w.heap.size+1,3,none⟩=some (.int .u64 x2)/\T.cell? ⟨w.heap.size+1,4,none⟩=some (.int .u64 x3)) (first | exact O.o _ (Below.refl _ _) | exact O.o _ ((Below.refl _ W0).drew) | exact O.o _ N.o)
         (first
         | (go_at_call 128
            (refine (i2.o _).mono ?_);rintro e2 w2 ⟨rfl,f4⟩;have N:Hid (qw W0 w2):=(by first | exact Ab ((Below.refl _ W0).drew) f4 | exact f4)
            have Q:=qh (Ab D.o N.o)))
       all_goals obtain⟨u0,u1, -⟩:=HT.o.stays N.o
       all_goals go_wp2_with (first
         | (go_at_call 135
            (refine (g0.o _ _ (PLies.nil _)).mono ?_);rintro e9 w9 J;obtain⟨dv,db,rfl,I,a⟩:=J.two;have B:=qh (Ab Q.o a);have C:=qh (I w Q.o.size B.o);clear I J a))
       all_goals go_ret2
       all_goals
         rw[u.o];exact C.o
   · have s3:(s.size:Int)<=(i:Int):=by omega
     have u:Hid (R=done s.size []):=by show _=_;rw[d.o];unfold Text.node;simp only[(by decide:¬(2:Int)=1),if_false,if_true];rw[Tv s G p hlt,Y];rfl
     go_enter func89,ntmps89
     go_upto_region 6 with fail
     generalize (w.alloc (.cells #[.string s,.bool G] 153)).alloc (.cells #[.int .i64 2,.int .u64 x0,.int .u64 x1,.int .u64 x2,.int .u64 x3,.int .i64 lo,.int .i64 h,.int .i64 g,.slice va 0 vc] 28)=W0 at D HT HX ⊢;obtain⟨t0,t1, -⟩:=HT.o
     go_region
     have Q:=qh D.o.drew;go_wp2_with (first
       | (go_at_call 135
          (refine (g0.o _ _ (PLies.nil _)).mono ?_);rintro e9 w9 J;obtain⟨dv,db,rfl,I,a⟩:=J.two;have B:=qh (Ab Q.o a);have C:=qh (I w Q.o.size B.o);clear I J a))
     go_ret2;rw[u.o];exact C.o
  iterate 2 (focus
   (have e7:=qh (i1.o o)
    obtain⟨z,hz⟩:∃z,(if o=7 then (tx s G).begins i else (tx s G).ends i)=z:=⟨_,rfl⟩;have b5:R=done s.size (if z=true then [(i,l)] else []):=by
      rw[d.o,<-hz];subst h7;unfold Text.node;simp (decide:=true) only[if_false,if_true];rw[Y]
    rw[hz]at e7;clear hz;subst h7;cases z
    · have u:Hid (R=done s.size []):=b5
      clear b5;go_enter func89,ntmps89;go_wp2_with (first
        | (go_at_call 129
           (refine (e7.o _).mono ?_);rintro e0 w0 ⟨rfl,K⟩;have Q:=qh (Ab D.o K);have g4:=qh (HT.o.stays K);obtain⟨u0,u1, -⟩:=g4.o)
        | (go_at_call 135
           (refine (g0.o _ _ (PLies.nil _)).mono ?_);rintro e9 w9 J;obtain⟨dv,db,rfl,I,a⟩:=J.two;have B:=qh (Ab Q.o a);have C:=qh (I w Q.o.size B.o);clear I J a))
      go_ret2;rw[u.o];exact C.o
    · have u:Hid (R=done s.size [(i,l)]):=b5
      have a6:=qh (fun v W (hP:PLies W v [(i,l)])=>g1.o v W (i,l) hP);clear b5;go_enter func89,ntmps89;go_wp2_with (first
        | (go_at_call 129
           (refine (e7.o _).mono ?_);rintro e0 w0 ⟨rfl,K⟩;have Q:=qh (Ab D.o K);have g4:=qh (HT.o.stays K);obtain⟨u0,u1, -⟩:=g4.o)
        | (go_at_call 127
           (refine (b2.o _ Q.o i).mono ?_);rintro e1 w1 ⟨⟨nv,rfl,E, -⟩,a1⟩;rw[Fh]at E;have P:=a1.below ql (fun k _ e=>by cases e);have S:=qh (Ab Q.o P);have f0:=qh E.lies;obtain⟨t0,t1, -⟩:=g4.o.stays P;obtain⟨na,nc,rfl⟩:=E.form;clear E a1 P)
        | (go_at_call 135
           (refine (a6.o _ _ f0.o).mono ?_);rintro e9 w9 J;obtain⟨dv,db,rfl,I,a⟩:=J.two;have B:=qh (Ab S.o a);have C:=qh (I w S.o.size B.o);clear I J a))
      go_ret2;rw[u.o];exact C.o))
  ·simp only[List.length_nil]at D HT HX ⊢
   have q0:1<=g/\g<=(k:Int):=by simpa using g7
   have n7:=g2.o;obtain⟨m,rfl⟩:∃m:Nat,g=(m:Int)+1:=⟨(g-1).toNat,by omega⟩;have hm:m<l.length:=by omega
   have s7:(m:Int)< (l.length:Int):=by omega
   have s6:(m:Int)<=4096:=by omega
   clear n7 q0 g7;obtain⟨x,hx⟩:∃x,l[m]? =some x:=⟨_,List.getElem?_eq_getElem hm⟩;obtain⟨sb,so,rfl,y1,y2⟩:=HS.o.at hx;obtain⟨U,X⟩:=x;have b8:=g3.o _ (List.mem_of_getElem? hx);have m7:=qh b8;have j7:=qh (tx_back s G l i hx);have e5:=qh (fun W=>refAgain_any s G (U,X) i W hi (by omega) b8);simp only at y1 y2 e5;have r7:Hid (so+m*2<so+m*2+1):=qh (by omega);have q8: -1<=U/\U<=4096/\ -1<=X/\X<=4096:=by
     rcases b8 with e | ⟨h1,h2,h3⟩
     · injection e with e1 e2
       omega
     · simp only at h1 h2 h3
       omega
   obtain⟨q1,q2,q3,q4⟩:=q8;clear b8 hx hm;cases hB:Ex s (U,X) i with
   | true=>
     have u:Hid (R=done s.size [(i+(X-U).toNat,l)]):=by show _=_;rw[d.o];unfold Text.node;simp only[(by decide:¬(9:Int)=1),(by decide:¬(9:Int)=2),(by decide:¬(9:Int)=3),(by decide:¬(9:Int)=4),(by decide:¬(9:Int)=5),(by decide:¬(9:Int)=6),(by decide:¬(9:Int)=7),(by decide:¬(9:Int)=8),if_false,if_true];rw[j7.o,hB,Y];rfl
     rw[hB]at e5;have a6:=qh (fun v W (hP:PLies W v [(i+(X-U).toNat,l)])=>g1.o v W (i+(X-U).toNat,l) hP);have s4:0<=U/\i+(X-U).toNat<=s.size:=by
       unfold Ex at hB;have h1:=of_decide_eq_true hB;exact⟨h1.1,h1.2.1⟩
     have t2:U<=X:=by
       rcases m7.o with e | ⟨h1,h2,h3⟩
       · injection e with e1 e2
         omega
       · exact h2
     have h5:((i+(X-U).toNat:Nat):Int)=(i:Int)+X-U:=by omega
     have m2:=qh h5;clear h5;clear hB;go_enter func89,ntmps89
     go_upto_region 13 with fail
     have f8:=up9 D.o y1;have f9:=up9 D.o y2;generalize (w.alloc (.cells #[.string s,.bool G] 153)).alloc (.cells #[.int .i64 9,.int .u64 x0,.int .u64 x1,.int .u64 x2,.int .u64 x3,.int .i64 lo,.int .i64 h,.int .i64 ((m:Int)+1),.slice va 0 vc] 28)=W0 at D HT HX f8 f9 ⊢;clear y1 y2;have d7:=HX.o.d7
     go_upto_region 14 with fail
     have a2:=heap_alloc_new W0 (.cells #[.int .i64 U,.int .i64 X] 53);have z0:(W0.alloc (.cells #[.int .i64 U,.int .i64 X] 53)).cell? ⟨W0.heap.size,0,none⟩=some (.int .i64 U):=by rw[qc a2];rfl
     have z1:(W0.alloc (.cells #[.int .i64 U,.int .i64 X] 53)).cell? ⟨W0.heap.size,1,none⟩=some (.int .i64 X):=by rw[qc a2];rfl
     have S:=qh (D.o.alloc D.o.size (.cells #[.int .i64 U,.int .i64 X] 53));have a9:=qh (HT.o.stays ((Below.refl _ W0).alloc ql (.cells #[.int .i64 U,.int .i64 X] 53)));clear a2 d7 f8 f9;generalize W0.alloc (.cells #[.int .i64 U,.int .i64 X] 53)=W1 at S a9 z0 z1 ⊢;obtain⟨t0,t1, -⟩:=a9.o;go_wp2_with (first
       | (go_at_call 130
          (refine (e5.o _).mono ?_);rintro e0 w0 ⟨rfl,K⟩;have e6:=qh (Ab S.o K);have g5:=qh (a9.o.stays K);have r1:=up9 K z0;have r2:=up9 K z1;obtain⟨u0,u1, -⟩:=g5.o;clear K)
       | (go_at_call 127
          have ha:=b2.o _ e6.o (i+(X-U).toNat);rw[m2.o]at ha;(refine ha.mono ?_);clear ha;rintro e1 w1 ⟨⟨nv,rfl,E, -⟩,a1⟩;rw[Fh]at E;have P:=a1.below ql (fun k _ e=>by cases e);have c9:=qh (Ab e6.o P);have p1:=qh E.lies;have i3:=qh (g5.o.stays P);obtain⟨u0,u1, -⟩:=i3.o;obtain⟨na,nc,rfl⟩:=E.form;clear E a1 P)
       | (go_at_call 135
          (refine (a6.o _ _ p1.o).mono ?_);rintro e9 w9 J;obtain⟨dv,db,rfl,I,a⟩:=J.two;have B:=qh (Ab c9.o a);have C:=qh (I w c9.o.size B.o);clear I J a))
     go_ret2;rw[u.o];exact C.o
   | false=>
     have u:Hid (R=done s.size []):=by show _=_;rw[d.o];unfold Text.node;simp only[(by decide:¬(9:Int)=1),(by decide:¬(9:Int)=2),(by decide:¬(9:Int)=3),(by decide:¬(9:Int)=4),(by decide:¬(9:Int)=5),(by decide:¬(9:Int)=6),(by decide:¬(9:Int)=7),(by decide:¬(9:Int)=8),if_false,if_true];rw[j7.o,hB,Y];rfl
     rw[hB]at e5;clear hB;go_enter func89,ntmps89
     go_upto_region 13 with fail
     have f8:=up9 D.o y1;have f9:=up9 D.o y2;generalize (w.alloc (.cells #[.string s,.bool G] 153)).alloc (.cells #[.int .i64 9,.int .u64 x0,.int .u64 x1,.int .u64 x2,.int .u64 x3,.int .i64 lo,.int .i64 h,.int .i64 ((m:Int)+1),.slice va 0 vc] 28)=W0 at D HT HX f8 f9 ⊢;clear y1 y2;have d7:=HX.o.d7
     go_upto_region 14 with fail
     have a2:=heap_alloc_new W0 (.cells #[.int .i64 U,.int .i64 X] 53);have z0:(W0.alloc (.cells #[.int .i64 U,.int .i64 X] 53)).cell? ⟨W0.heap.size,0,none⟩=some (.int .i64 U):=by rw[qc a2];rfl
     have z1:(W0.alloc (.cells #[.int .i64 U,.int .i64 X] 53)).cell? ⟨W0.heap.size,1,none⟩=some (.int .i64 X):=by rw[qc a2];rfl
     have S:=qh (D.o.alloc D.o.size (.cells #[.int .i64 U,.int .i64 X] 53));have a9:=qh (HT.o.stays ((Below.refl _ W0).alloc ql (.cells #[.int .i64 U,.int .i64 X] 53)));clear a2 d7 f8 f9;generalize W0.alloc (.cells #[.int .i64 U,.int .i64 X] 53)=W1 at S a9 z0 z1 ⊢;obtain⟨t0,t1, -⟩:=a9.o;go_wp2_with (first
       | (go_at_call 130
          (refine (e5.o _).mono ?_);rintro e0 w0 ⟨rfl,K⟩;have e6:=qh (Ab S.o K);have g5:=qh (a9.o.stays K);have r1:=up9 K z0;have r2:=up9 K z1;obtain⟨u0,u1, -⟩:=g5.o;clear K)
       | (go_at_call 135
          (refine (g0.o _ _ (PLies.nil _)).mono ?_);rintro e9 w9 J;obtain⟨dv,db,rfl,I,a⟩:=J.two;have B:=qh (Ab e6.o a);have C:=qh (I w e6.o.size B.o);clear I J a))
     go_ret2;rw[u.o];exact C.o
  ·have HC:=qh j9.o
   have u:Hid (R=(Cs ((tx s G).parsesL args) [(i,l)]).bind (done s.size)):=by show _=_;rw[d.o];unfold Text.node;simp only[(by decide:¬(3:Int)=1),(by decide:¬(3:Int)=2),if_false,if_true];rw[Y]
   rw[<- u.o]at HC;go_enter func89,ntmps89
   go_wp2_with (go_at_call 132
                (refine (HC.o _ D.o).mono ?_);rintro e9 w9 J;obtain⟨dv,db,rfl,I,a⟩:=J.two;have B:=qh (Ab D.o a);have C:=qh (I w D.o.size B.o);clear I J a)
   go_ret2;exact C.o
  ·have HC:=qh j6.o
   have u:Hid (R=(De ((tx s G).parsesL args) i l).bind (done s.size)):=by show _=_;rw[d.o];unfold Text.node;simp only[(by decide:¬(4:Int)=1),(by decide:¬(4:Int)=2),(by decide:¬(4:Int)=3),if_false,if_true];rw[Y]
   rw[<- u.o]at HC;go_enter func89,ntmps89
   go_wp2_with (go_at_call 133
                (refine (HC.o _ D.o).mono ?_);rintro e9 w9 J;obtain⟨dv,db,rfl,I,a⟩:=J.two;have B:=qh (Ab D.o a);have C:=qh (I w D.o.size B.o);clear I J a)
   go_ret2;exact C.o
  ·have HC:=qh (fun W (hW:qw w W)=>f1.o t W rfl rfl (b7 t (by simp)) hW)
   have u:Hid (R=(Fu ((tx s G).parses t) (clear (Ap (.mk 5 p lo h g [t]))) lo h i l).bind (done s.size)):=by show _=_;rw[d.o];unfold Text.node;simp only[(by decide:¬(5:Int)=1),(by decide:¬(5:Int)=2),(by decide:¬(5:Int)=3),(by decide:¬(5:Int)=4),if_false,if_true,Text.parsesL];rw[Y]
   rw[<- u.o]at HC;go_enter func89,ntmps89
   go_wp2_with (go_at_call 134
                (refine (HC.o _ D.o).mono ?_);rintro e9 w9 J;obtain⟨dv,db,rfl,I,a⟩:=J.two;have B:=qh (Ab D.o a);have C:=qh (I w D.o.size B.o);clear I J a)
   go_ret2;exact C.o
  ·simp only[List.length_singleton]at D HT HX ⊢
   have n5:1<=g/\g<=(k:Int):=by simpa using g7
   have s1:1<=g:=n5.1;have s2:g<=4096:=by omega
   clear g7 n5;have a7:=qh (fun m=>Dd (tx s G) t i l m);rw[Y]at a7;have h0:=qh (b7 t (by simp));have g8:=qh (Bk i5 (show t∈ [t] by simp));have o6:Hid (l.length<=4096):=by show _<=_;have:=g2.o;omega
   obtain⟨a',c',vs,e, -,ho⟩:=HL.o.opened;injection e with e1 _ e3;subst e1 e3;have HO:=qh ho;clear ho;have u:Hid (R=((tx s G).parses t i l).bind fun m=>done s.size (m.map fun (p:Parse)=>(p.1,Di p.2 g ((i:Int),(p.1:Int))))):=by show _=_;rw[d.o];unfold Text.node;simp only[(by decide:¬(6:Int)=1),(by decide:¬(6:Int)=2),(by decide:¬(6:Int)=3),(by decide:¬(6:Int)=4),(by decide:¬(6:Int)=5),if_false,if_true,Text.parsesL];rw[Y]
   cases hf:(tx s G).parses t i l with
   | none=>
     have p3:Hid (R=none):=by show _=_;rw[u.o,hf];rfl
     go_enter func89,ntmps89
     go_upto_region 17 with fail
     generalize (w.alloc (.cells #[.string s,.bool G] 153)).alloc (.cells #[.int .i64 6,.int .u64 x0,.int .u64 x1,.int .u64 x2,.int .u64 x3,.int .i64 lo,.int .i64 h,.int .i64 g,.slice va 1 vc] 28)=W0 at D HT HX ⊢;have d7:=HX.o.d7;have d8:=HX.o.d8;obtain⟨t0,t1, -⟩:=HT.o;obtain⟨t',tv,b,off,ht,hv,e1,⟨y0,y1,y2,y3,y4,y5,y6,y7,y8⟩,b0,f5,hm⟩:=(HO.o.stays D.o).at (show 0< [t].length from by simp);obtain rfl:t=t':=by simpa using ht
     subst e1;simp only[Nat.zero_mul,Nat.add_zero]at y0 y1 y2 y3 y4 y5 y6 y7 y8;have a8:=qh (fun W (A:qw W0 W)=>k0.o t tv (.slice sa l.length sc) i l W h0.o g8.o f5 (b0.stays A) (HS.o.stays (D.o.trans (A.mono D.o.size))) g2.o g3.o hi);rw[hf]at a8;unfold Ac at a8;obtain⟨j3,j4,rfl⟩:=b0.shape;clear ht hv b0 f5 hm hf;have O:=qh (fun W (A:qw W0 W)=>And.intro (up9 A t0) (And.intro (up9 A t1) (And.intro (up9 A d8) (And.intro (up9 A y0) (And.intro (up9 A y1) (And.intro (up9 A y2) (And.intro (up9 A y3) (And.intro (up9 A y4) (And.intro (up9 A y5) (And.intro (up9 A y6) (And.intro (up9 A y7) (up9 A y8))))))))))))
     go_region_held3 (fun T=>T.cell? ⟨w.heap.size,0,none⟩=some (.string s)/\T.cell? ⟨w.heap.size,1,none⟩=some (.bool G)/\T.cell? ⟨w.heap.size+1,8,none⟩=some (.slice (some ⟨b,off,none⟩) 1 vc)/\tS T b off t j3 j4) (first | exact O.o _ (Below.refl _ _) | exact O.o _ ((Below.refl _ W0).drew) | exact O.o _ N.o)
       (first
       | (go_at_call 89
          (refine (a8.o _ (by first | exact (Below.refl _ W0).drew | exact Below.refl _ W0)).mono ?_)
          rintro e w3 ⟨h3,d9⟩;obtain rfl:=h3;have N:Hid (qw W0 w3):=(by first | exact Ab ((Below.refl _ W0).drew) d9 | exact d9)
          have c9:=qh (Ab D.o N.o)))
     all_goals go_wp2
     all_goals go_ret2
     all_goals rw[p3.o]
     all_goals exact⟨rfl,c9.o⟩
   | some m=>
     obtain⟨M,hM⟩:∃M,(m.map fun (p:Parse)=>(p.1,Di p.2 g ((i:Int),(p.1:Int))))=M:=⟨_,rfl⟩;have p4:Hid (R=done s.size M):=by show _=_;rw[u.o,hf,Option.bind_some,hM]
     have o7:Hid (∀(j:Nat) (y:Parse),m[j]? =some y->M[j]? =some (y.1,Di y.2 g ((i:Int),(y.1:Int)))):=fun j y h=>by rw[<- hM,List.getElem?_map,h];rfl
     have m1:Hid (M.length=m.length):=by show _=_;rw[<- hM];simp
     have o8:=qh (a7.o m hi g3.o hf);have m0:=qh (Ej _ _ _ _ _ hf);clear hM a7;go_enter func89,ntmps89
     go_upto_region 17 with fail
     generalize (w.alloc (.cells #[.string s,.bool G] 153)).alloc (.cells #[.int .i64 6,.int .u64 x0,.int .u64 x1,.int .u64 x2,.int .u64 x3,.int .i64 lo,.int .i64 h,.int .i64 g,.slice va 1 vc] 28)=W0 at D HT HX ⊢;have d7:=HX.o.d7;have d8:=HX.o.d8;obtain⟨t0,t1, -⟩:=HT.o;obtain⟨t',tv,b,off,ht,hv,e1,⟨y0,y1,y2,y3,y4,y5,y6,y7,y8⟩,b0,f5,hm⟩:=(HO.o.stays D.o).at (show 0< [t].length from by simp);obtain rfl:t=t':=by simpa using ht
     subst e1;simp only[Nat.zero_mul,Nat.add_zero]at y0 y1 y2 y3 y4 y5 y6 y7 y8;have a8:=qh (fun W (A:qw W0 W)=>k0.o t tv (.slice sa l.length sc) i l W h0.o g8.o f5 (b0.stays A) (HS.o.stays (D.o.trans (A.mono D.o.size))) g2.o g3.o hi);rw[hf]at a8;unfold Ac at a8;obtain⟨j3,j4,rfl⟩:=b0.shape;clear ht hv b0 f5 hm hf;have O:=qh (fun W (A:qw W0 W)=>And.intro (up9 A t0) (And.intro (up9 A t1) (And.intro (up9 A d8) (And.intro (up9 A y0) (And.intro (up9 A y1) (And.intro (up9 A y2) (And.intro (up9 A y3) (And.intro (up9 A y4) (And.intro (up9 A y5) (And.intro (up9 A y6) (And.intro (up9 A y7) (up9 A y8))))))))))))
     go_region_held3 (fun T=>T.cell? ⟨w.heap.size,0,none⟩=some (.string s)/\T.cell? ⟨w.heap.size,1,none⟩=some (.bool G)/\T.cell? ⟨w.heap.size+1,8,none⟩=some (.slice (some ⟨b,off,none⟩) 1 vc)/\tS T b off t j3 j4) (first | exact O.o _ (Below.refl _ _) | exact O.o _ ((Below.refl _ W0).drew) | exact O.o _ N.o)
       (first
       | (go_at_call 89
          (refine (a8.o _ (by first | exact (Below.refl _ W0).drew | exact Below.refl _ W0)).mono ?_)
          rintro e w3 ⟨h3,d9⟩;obtain⟨mv,rfl,b1⟩:=h3;have o9:=qh (show PRow w3 W0.heap.size mv m from b1);have r6:Hid (∀b,mv.ownBlock=some b->W0.heap.size<=b):=(fun b hb=>(b1.lt b hb).1);obtain⟨ma,mc,rfl⟩:=b1.form;have N:Hid (qw W0 w3):=(by first | exact Ab ((Below.refl _ W0).drew) d9 | exact d9)
          have c9:=qh (Ab D.o N.o);clear b1 d9))
     have p5:=qh (HT.o.stays N.o);have p9:=qh (HX.o.stays N.o);have m3:=qh N.o.size;have s8:(m.length:Int)<=4096:=by have:=m0.o;omega
     clear t0 t1 d7 d8 y0 y1 y2 y3 y4 y5 y6 y7 y8;go_wp2
     go_loopw [10,14] (fun nx ic wr=>∃(j:Nat) (nv:Value),j<=m.length/\ic=.int .i64 j/\nv=nx/\PRow wr W0.heap.size nv (An [] (M.take j))/\PRow wr W0.heap.size (.slice ma m.length mc) m/\Apart (.slice ma m.length mc) nv/\qw w wr/\TBox wr w.heap.size s G/\Box9 wr (w.heap.size+1) 6 x0 x1 x2 x3 lo h g (.slice (some ⟨b,off,none⟩) 1 vc)/\W0.heap.size<=wr.heap.size) (fun _ ic _=>m.length-(intOf ic).toNat)
     case atStart=>exact⟨0,_,Nat.zero_le _,rfl,rfl,PRow.nil _ _,o9.o,Apart.nil _,c9.o,p5.o,p9.o,m3.o⟩
     case round=>
       obtain⟨j,nv,hj,rfl,rfl,i6,b1,h4,hb,o4,i9,h6⟩:=hrel;have V:=qh i6;have e8:=qh b1;have a0:=qh h4;have b4:=qh hb;have m4:=qh o4;have m6:=qh i9;have d7:=i9.d7;obtain⟨t0,t1, -⟩:=o4;obtain⟨na,nc,rfl⟩:=i6.form;have f3:=Et (M.take j) [];have q7:(M.take j).length<=m.length:=by rw[List.length_take];have:=m1.o;omega
       simp only[List.length_nil,Nat.zero_add]at f3;have m8:(An [] (M.take j)).length<=4096:=by have:=m0.o;omega
       have m9:((An [] (M.take j)).length:Int)<=4096:=by omega
       clear i6 b1 h4 hb i9 f3 q7;by_cases hjt:j<m.length
       · have q5:(j:Int)< (m.length:Int):=by omega
         have j0:m[j]? =some m[j]:=List.getElem?_eq_getElem hjt;obtain⟨b3,b9,t4,e3,y1,y2,b6⟩:=e8.o.lies.at j0;obtain⟨j1,j2,rfl⟩:=b6.shape;have r4:=b6.len.2;have i7:=o8.o _ (List.getElem_mem hjt);have p6:Hid (An [] (M.take (j+1))=addU (An [] (M.take j)) (m[j].1,Di m[j].2 g ((i:Int),(m[j].1:Int)))):=by show _=_;rw[Bt (o7.o _ _ j0),Jf]
         have q9:m[j].2.length<=4096:=by have h1:=i7.2.2.1;have h2:=o6.o;omega
         have t3:(m[j].1:Int)<=(s.size:Int):=by have:=i7.2.1;omega
         have p7:=qh (fun W (A:qw wr W)=>refWith_any (.slice j1 m[j].2.length j2) m[j].2 g ((i:Int),(m[j].1:Int)) W (b6.stays A) q9 (by omega));have j8:Hid (∀q,b3=q->(Value.slice ma m.length mc).ownBlock=some q):=fun q hq=>by rw[e3,hq];rfl
         subst e3;clear j0 b6 i7;generalize m[j]=y at*;obtain⟨ye,j5⟩:=y;simp only at*;have f2:=qh (fun W (A:qw wr W)=>And.intro (up9 A d7) (And.intro (up9 A y1) (up9 A y2)));go_wp2
         go_region_held3 (fun T=>T.cell? ⟨w.heap.size+1,7,none⟩=some (.int .i64 g)/\T.cell? ⟨b3,b9+j*2,none⟩=some (.int .i64 (ye:Int))/\T.cell? ⟨b3,b9+j*2+1,none⟩=some (.slice j1 j5.length j2)) (first | exact f2.o _ (Below.refl _ _) | exact f2.o _ ((Below.refl _ wr).drew) | exact m5.o | exact f2.o _ a3.o)
           (first
           | (go_at_call 131
              (refine (p7.o _ (by first | exact (Below.refl _ wr).drew | exact Below.refl _ wr)).mono ?_)
              rintro e w5 ⟨⟨wv,rfl,i8⟩,i4⟩;have p8:=qh i8;have a3:Hid (qw wr w5):=(by first | exact Ab ((Below.refl _ wr).drew) i4 | exact i4)
              obtain⟨t5,t6,rfl⟩:=i8.shape;clear i8 i4)
           | (go_at_call 127
              (refine (i0.o _ _ (An [] (M.take j)) (ye,Di j5 g ((i:Int),(ye:Int))) W0.heap.size w5 (V.o.stays a3.o) p8.o (Nat.le_trans h6 a3.o.size) (by omega)).mono ?_);rintro e w6 ⟨⟨r0,rfl,o1,n8⟩,n3⟩;have p2:=qh o1;have p0:=qh (n8.mono a3.o.size);have a4:Hid (Chg (fun k=>some k=(Value.slice na (An [] (M.take j)).length nc).ownBlock) wr w6):=(Chg.of a3.o).trans n3 (fun k _ e=>e);have m5:Hid (w6.cell? ⟨w.heap.size+1,7,none⟩=some (.int .i64 g)/\w6.cell? ⟨b3,b9+j*2,none⟩=some (.int .i64 (ye:Int))/\w6.cell? ⟨b3,b9+j*2+1,none⟩=some (.slice j1 j5.length j2)):=⟨a4.o.cell d7 (fun e=>by have h1:W0.heap.size<=w.heap.size+1:=(V.o.lt (w.heap.size+1) e.symm).1;have h2:=HX.o.lt;omega),a4.o.cell y1 (fun e=>a0.o b3 (j8.o b3 rfl) e.symm),a4.o.cell y2 (fun e=>a0.o b3 (j8.o b3 rfl) e.symm)⟩;clear o1 n8 n3))
         go_wp2;go_roundw
         case rel=>exact⟨j+1,r0,by omega,by go_num,rfl,by rw[p6.o];exact p2.o,e8.o.chg a4.o V.o.noSp (fun b hb e=>a0.o b hb e.symm),a0.o.near p0.o (fun b hb=>(e8.o.lt b hb).2),b4.o.trans (a4.o.below b4.o.size (fun k hk e=>by have:=(V.o.lt k e.symm).1;have:=D.o.size;omega)),m4.o.chg a4.o (fun e=>by have:=(V.o.lt w.heap.size e.symm).1;have:=HT.o.lt;omega),m6.o.chg a4.o (fun e=>by have h1:=(V.o.lt (w.heap.size+1) e.symm).1;have h2:=HX.o.lt;omega),Nat.le_trans h6 a4.o.size⟩
         case measure=>simp[intOf];omega
       · have q5:¬(j:Int)< (m.length:Int):=by omega
         have HJ:Hid (An [] (M.take j)=An [] M):=by show _=_;rw[show j=M.length by have:=m1.o;omega,List.take_length]
         rw[HJ.o]at V a0 m8 m9 ⊢;have n9:(An [] M).Nodup:=Ih List.nodup_nil M;have HD:=qh (a5.o (.slice na (An [] M).length nc) (An [] M) wr V.o.lies (by omega) n9);have o5:Hid (done s.size (An [] M)=done s.size M):=done_dd s.size M;rw[o5.o]at HD;clear n9;go_wp2_with (first
           | (go_at_call 135
              (refine (HD.o).mono ?_);rintro e9 w9 J;obtain⟨dv,db,rfl,I,a⟩:=J.two;have B:=qh (Ab b4.o a);have C:=qh (I w b4.o.size B.o);clear I J a))
         go_ret2;rw[p4.o];exact C.o
end ReMem
namespace ReMem
open Go Go.RowKit MatchMath
def GP (n k:Nat) (L:List Parse):Prop:=∀p∈L,p.1<=n/\p.2.length=k/\SpOk n p.2
theorem GP.fit {n k:Nat} {L:List Parse} (h:GP n k L) (b:n<=4096) (a:k<=4096):∀p∈L,PFit p:=fun p hp=>pok_fit (n:=n) (k:=k) (i:=0) ⟨Nat.zero_le _,(h p hp).1,(h p hp).2.1,(h p hp).2.2⟩ b a
theorem GP.le {n k:Nat} {L:List Parse} (h:GP n k L):∀p∈L,p.1<=n:=fun p hp=>(h p hp).1
theorem GP.nil (n k:Nat):GP n k []:=fun p hp=>by cases hp
theorem GP.one {n k i:Nat} {l:List Span} (hi:i<=n) (a:l.length=k) (b:SpOk n l):GP n k [(i,l)]:=fun p hp=>by
 obtain rfl:=List.mem_singleton.1 hp;exact⟨hi,a,b⟩
theorem GP.append {n k:Nat} {L M:List Parse} (h:GP n k L) (g:GP n k M):GP n k (L++M):=fun p hp=>(List.mem_append.1 hp).elim (h p) (g p)
theorem Fg (n k:Nat) (v:Value) (L:List Parse) (B:Nat) (a w:World) (d:Below B a w) (c:a.heap.size=B) (j:Tabs a) (h:PLies w v L) (g:L.length<=1099511627776) (b:GP n k L) (i:n<=4096) (e:k<=4096):
 Calls Tryz.prog 172 #[v] w (PRes w (done n L)):=sorted_any n v L w h g (b.fit i e) b.le (j.stays (by subst c;exact d))
theorem repAll_len {f:F} {a:List Span->List Span} {lo hi:Int} {i:Nat} {l:List Span} {m:List Parse} (h:Fu f a lo hi i l=some m):m.length<=4096:=by
 unfold Fu at h;cases hv:visit f a lo hi (most+1) 0 (i,l) ([],[]) with
 | none=>rw[hv]at h;cases h
 |some st'=>
  rw[hv]at h;obtain rfl:=Option.some.inj h;have b:=(Ks lo hi (most+1) 0 (i,l) ([],[]) st' (Nat.zero_le _) hv).2;have c:=Hw lo hi 0 (most+1) 0 0 (i,l) ([],[]) st' ql hv;unfold most at b;show st'.2.length<=_;omega
theorem POk.gp {n k i:Nat} {L:List Parse} (h:∀p∈L,POk n k i p):GP n k L:=fun p hp=>⟨(h p hp).2.1,(h p hp).2.2.1,(h p hp).2.2.2⟩
structure PW (w w3:World) (o:Int) (x0 x1 x2 x3:Nat) (lo h g:Int) (v:Value) (i:Nat) (sv:Value):Prop where
 bel:qw w w3
 sz:w3.heap.size=w.heap.size+1+1+1
 box:Box9 w3 w.heap.size o x0 x1 x2 x3 lo h g v
 here:w3.heap[w.heap.size+1]? =some (.cells #[.int .i64 (i:Int),sv] 119)
 out:OBx w3 (w.heap.size+1+1) (.slice none 0 0) []
theorem PW.new (w:World) (o:Int) (a b c d:Nat) (lo h g:Int) (v:Value) (i:Nat) (e:Value):PW w (((w.alloc (.cells #[.int .i64 o,.int .u64 a,.int .u64 b,.int .u64 c,.int .u64 d,.int .i64 lo,.int .i64 h,.int .i64 g,v] 28)).alloc (.cells #[.int .i64 (i:Int),e] 119)).alloc (.cells #[.slice none 0 0] 115)) o a b c d lo h g v i e:=by
 have j:=(Below.refl _ (w.alloc (.cells #[.int .i64 o,.int .u64 a,.int .u64 b,.int .u64 c,.int .u64 d,.int .i64 lo,.int .i64 h,.int .i64 g,v] 28))).alloc ql (.cells #[.int .i64 (i:Int),e] 119);have l:=j.alloc j.size (.cells #[.slice none 0 0] 115);refine⟨(((qb w _).alloc (by simp) _).alloc (by simp;omega) _),by simp,(Box9.newS w w.heap.size o a b c d lo h g v 28 rfl).stays l,Ax _ (Cb _ _ _ (by simp)),Cb _ _ _ (by simp),PRow.nil _ _⟩
end ReMem
end Go.Proofs.YtjefcpjciogcjaaGreatDoor
