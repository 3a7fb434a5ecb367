/- Lemmas for the walk of the law, in 3 parts. No condition beyond what each states. -/
import Derived.Test.YtjefcpjciogcjaaGreatDoorG17
import Derived.Test.YtjefcpjciogcjaaGreatDoorG4
import Derived.Test.YtjefcpjciogcjaaGreatDoorG3
import Derived.Test.YtjefcpjciogcjaaGreatDoorG2
import Derived.Test.YtjefcpjciogcjaaGreatDoorG14
import Derived.Test.YtjefcpjciogcjaaGreatDoorG1
namespace Go.Proofs.YtjefcpjciogcjaaGreatDoor
set_option maxRecDepth 100000
set_option linter.unusedVariables false
set_option maxHeartbeats 40000000
open Tryz
namespace ReMem
open Go Go.RowKit MatchMath
theorem Qp:∀n:Nat,Az (List.replicate n (0,0))=List.replicate (n*2) (.int .i64 0)
 | 0=>rfl
 |n+1=>by
  have h:=Qp n;rw[List.replicate_succ,show (n+1)*2=n*2+1+1 by omega,List.replicate_succ,List.replicate_succ,<-h];rfl
theorem madeSp (n:Nat):(madeCells #[.int .i64 0,.int .i64 0] (n*2)).toList=Az (List.replicate n (0,0)):=by
 rw[Qp];refine List.eq_replicate_iff.2 ⟨by simp[madeCells],fun b a=>?_⟩;simp only[madeCells,Array.toList_map,List.mem_map]at a;obtain⟨i, -,rfl⟩:=a;rcases Nat.mod_two_eq_zero_or_one i with h | h
 ·show #[Value.int .i64 0,.int .i64 0][i%2]! =_
  rw[h];rfl
 ·show #[Value.int .i64 0,.int .i64 0][i%2]! =_
  rw[h];rfl
theorem all_any (s:ByteArray) (ln:Bool) (e0:s.size<=4096) (e:Re) (v:Value) (i mm:Nat) (w:World) (e5:size e<=100) (b3:gok (Af 6 e) e=true) (B:Ag e) (hl:Lies w v e.args) (hi:i<=s.size) (hm:TBox w mm s ln) (ht:Tabs w) (hk:Af 6 e<=4096):
  Calls Tryz.prog 84 #[.pointer (some ⟨mm,0,none⟩),Ac v e,.int .i64 i] w (RRes w ((tx s ln).parses e i (List.replicate (Af 6 e) Cj))):=by
 have Q:=qh (fun W sv (hw:qw w W) (hs:Al W sv (List.replicate (Af 6 e) Cj))=>progPar_any s ln (Af 6 e) e0 hk (size e+1) (by omega) e v sv i (List.replicate (Af 6 e) Cj) mm W (Nat.lt_succ_self _) b3 B (hl.stays hw) hs (by simp) (Ik _ _) hi (hm.stays hw) (ht.stays hw));have a0:=qh (fun W (hw:qw w W)=>Eg e v W (by omega) B (hl.stays hw));have b0:=qh ht;obtain⟨va,vc,rfl⟩:=hl.shape;unfold Ac at Q a0 ⊢;obtain⟨R,hR⟩:∃R,(tx s ln).parses e i (List.replicate (Af 6 e) Cj)=R:=⟨_,rfl⟩;rw[hR]at Q ⊢;clear hR hl hm ht b3 B e5;generalize Af 6 e=k at*;generalize e.op=o at*;generalize e.lo=lo at*;generalize e.hi=hi' at*;generalize e.group=g at*;generalize Sets.Aa e.set 0=x0 at*;generalize Sets.Aa e.set 1=x1 at*;generalize Sets.Aa e.set 2=x2 at*;generalize Sets.Aa e.set 3=x3 at*;generalize e.args.length=nargs at*;have g4:∀(fn:Fn) (first S:Array Value) (w:World),(Instr.makeFunc fn first S).run Tryz.prog w=.ok (.func fn first S) w:=fun _ _ _ _=>rfl
 obtain⟨i0,c9,f0,f3,f4⟩:=info_parts Qr;have g3:(k:Int)<=4096:=by omega
 have f6:(s.size:Int)<=4096:=by omega
 have g2:(i:Int)<=(s.size:Int):=by omega
 have O:=qh (((qb w (.cells #[.int .i64 o,.int .u64 x0,.int .u64 x1,.int .u64 x2,.int .u64 x3,.int .i64 lo,.int .i64 hi',.int .i64 g,.slice va nargs vc] 28)).alloc (by simp) (.cells #[.slice none 0 0] 115)).alloc (by simp;omega) (.cells #[.bool false] 4));have U:=(Below.refl _ (w.alloc (.cells #[.int .i64 o,.int .u64 x0,.int .u64 x1,.int .u64 x2,.int .u64 x3,.int .i64 lo,.int .i64 hi',.int .i64 g,.slice va nargs vc] 28))).alloc ql (.cells #[.slice none 0 0] 115);have b1:=qh ((Box9.newS w w.heap.size o x0 x1 x2 x3 lo hi' g (.slice va nargs vc) 28 rfl).stays (U.alloc U.size (.cells #[.bool false] 4)));have a2:=qh (Ax (.cells #[.bool false] 4) (Cb (w.alloc (.cells #[.int .i64 o,.int .u64 x0,.int .u64 x1,.int .u64 x2,.int .u64 x3,.int .i64 lo,.int .i64 hi',.int .i64 g,.slice va nargs vc] 28)) (.cells #[.slice none 0 0] 115) (w.heap.size+1) (by simp)));have a1:=qh (Cb ((w.alloc (.cells #[.int .i64 o,.int .u64 x0,.int .u64 x1,.int .u64 x2,.int .u64 x3,.int .i64 lo,.int .i64 hi',.int .i64 g,.slice va nargs vc] 28)).alloc (.cells #[.slice none 0 0] 115)) (.cells #[.bool false] 4) (w.heap.size+1+1) (by simp));have a9:Hid ((((w.alloc (.cells #[.int .i64 o,.int .u64 x0,.int .u64 x1,.int .u64 x2,.int .u64 x3,.int .i64 lo,.int .i64 hi',.int .i64 g,.slice va nargs vc] 28)).alloc (.cells #[.slice none 0 0] 115)).alloc (.cells #[.bool false] 4)).heap.size=w.heap.size+3):=by show _=_;simp
 clear U
 go_enter_defers func84,ntmps84
 go_upto_region 2 with fail
 generalize ((w.alloc (.cells #[.int .i64 o,.int .u64 x0,.int .u64 x1,.int .u64 x2,.int .u64 x3,.int .i64 lo,.int .i64 hi',.int .i64 g,.slice va nargs vc] 28)).alloc (.cells #[.slice none 0 0] 115)).alloc (.cells #[.bool false] 4)=w3 at*;obtain⟨d0,d1,d2,d3,d4,d5,d6,d7,d8, -⟩:=b1.o;go_wp2_with (first
  | (go_at_call 57
     (refine (a0.o _ O.o).mono ?_);rintro e4 w4 ⟨rfl,b7⟩;have a:=qh b7)
  | (at_make
     refine wpList_make_full _ rfl _ _ _ rfl w4.heap.size 53 i0 _ 2 underlying40 c9 f0 f3 .i64 .i64 _ _ k rfl rfl rfl rfl (by rw[f4];omega) (by unfold maxLen;omega) ql ?_;intro w5 C b2;have M:Hid (qw w4 w5):=(Below.refl _ _).grown b2 ql (fun z hz=>by cases hz);have a6:Hid (SB w5 w4.heap.size (List.replicate k (0,0))):=by
       rcases C.2 with ⟨e,_⟩ | ⟨g9,S,T,e,hb,b9,g5,f8,f9,e8⟩
       · cases e
       · injection e with e1 e2 e3
         injection e1 with e1;injection e1 with e1;subst e1 e3;have b8:T.toList=Az (List.replicate k (0,0)):=by
           rw[<- madeSp];exact (List.take_of_length_le (by rw[Array.length_toList];omega)).symm.trans e8
         show _=_;rw[b9,<-b8]
     clear C b2))
 have f5:=qh (a.o.trans (M.o.mono a.o.size));clear d0 d1 d2 d3 d4 d5 d6 d7 d8
 go_loopw [16] (fun ix wr=>∃(j:Nat) (l':List Span),j<=k/\ix=.int .i64 j/\SB wr w4.heap.size l'/\l'.length=k/\Hid (∀q,q<j->l'[q]? =some Cj)/\qw w4 wr) (fun ix _=>k-(intOf ix).toNat)
 case atStart=>exact⟨0,_,Nat.zero_le _,rfl,a6.o,by simp,fun q hq=>by omega,M.o⟩
 case round=>
  obtain⟨j,l',hj,rfl,n,I,a4,X⟩:=hrel;have a7:=qh n;have E:=qh I;have P:=qh X;have HJ:=qh hj;have c:=qh (O.o.trans ((a.o.trans (P.o.mono a.o.size)).mono O.o.size));by_cases hjt:j<k
  ·have d9:(j:Int)< (k:Int):=by omega
   have D:=qh hjt;obtain⟨x,hx⟩:∃x,l'[j]? =some x:=⟨_,List.getElem?_eq_getElem (by omega)⟩;obtain⟨c0,c1⟩:=n.at hx;have z0:=n.free (j*2);have z1:=n.free (j*2+1);have n0:=upc c.o b0.o.n0;have n1:=upc c.o b0.o.n1;clear n I X hj hx hjt;go_wp2_with fail
   go_roundw
   case rel=>
      refine⟨j+1,l'.set j Cj,D.o,by go_num,a7.o.set j Cj (by rw[E.o];exact D.o),by rw[List.length_set];exact E.o,fun q hq=>?_,(P.o.setCell (p:=⟨_,_,none⟩) ql _).setCell (p:=⟨_,_,none⟩) ql _⟩;by_cases e:j=q
      · subst e
        rw[List.getElem?_set_self (by rw[E.o];exact D.o)]
      · rw[List.getElem?_set_ne e]
        exact a4.out q (by omega)
   case measure=>have:=D.o;simp[intOf];omega
  ·have d9:¬(j:Int)< (k:Int):=by omega
   have a5:Hid (l'=List.replicate k Cj):=by
      refine List.ext_getElem? fun q=>?_;rw[List.getElem?_replicate];by_cases hq:q<k
      · rw[if_pos hq]
        exact a4.out q (by omega)
      · rw[if_neg hq]
        exact List.getElem?_eq_none (by rw[E.o];omega)
   have a8:Hid (Al wr (.slice (some ⟨w4.heap.size,0,none⟩) k k) (List.replicate k Cj)):=by
      have h1:=n.lies (by rw[I];unfold maxLen;omega);rw[a5.o]at h1;show Al _ _ _;simpa using h1
   have N:=qh (Q.o wr _ c.o a8.o);have r:=qh (a.o.trans (P.o.mono a.o.size));have b6:=qh (b1.o.stays r.o);obtain⟨d0,d1,d2,d3,d4,d5,d6,d7,d8, -⟩:=b6.o;have u:=qh ((r.o.block _ (qd a2.o)).trans a2.o);have t:=qh ((r.o.block _ (qd a1.o)).trans a1.o);clear n I X hj;cases R with
   |  none=>
      go_wp2_with (first
        | (go_at_call 126
           (refine N.o.mono ?_);rintro e6 y ⟨h6,A⟩;obtain rfl:e6=.panicked [{v:=Value.iface 184 (.agg #[]),recovered:=false}]:=h6;have d:=qh A))
      have l:=(d.o.block _ (qd u.o)).trans u.o;have h:=(d.o.block _ (qd t.o)).trans t.o;refine leaves_cons (f:=125) (args:=#[.pointer (some ⟨w.heap.size+1,0,none⟩),.pointer (some ⟨w.heap.size+1+1,0,none⟩)]) (by simp) (by simp[go_sem]) ?_;refine (Uc (w.heap.size+1) (w.heap.size+1+1) (by omega) _ _ [] y l h).mono ?_;rintro e7 u' w7 ⟨rfl,rfl,J⟩;have g0:=Ax (.cells #[] 184) l;have g1:=Ax (.cells #[] 184) h;have f1:w7.cell? ⟨w.heap.size+1,0,none⟩=some (.slice none 0 0):=by rw[J,Ad (by simp)];exact Aq (by rw[qc g0];rfl)
      have f2:w7.cell? ⟨w.heap.size+1+1,0,none⟩=some (.bool false):=by rw[J];exact Aq (by rw[Ad (by simp),qc g1];rfl)
      have V:qw w w7:=by
        rw[J];exact ((((c.o.trans (d.o.mono c.o.size)).alloc (Nat.le_trans c.o.size d.o.size) _).setCell (p:=⟨_,_,none⟩) (by show w.heap.size<=w.heap.size+1;omega) _).setCell (p:=⟨_,_,none⟩) (by show w.heap.size<=w.heap.size+1+1;omega) _)
      clear J g0 g1;simp[Leaves,settle,results,results84,go_sem,f1,f2];exact⟨rfl,V⟩
   |  some m=>
      go_wp2_with (first
        | (go_at_call 126
           (refine N.o.mono ?_);rintro e6 y ⟨h6,A⟩;obtain⟨mv,rfl,Y⟩:=h6;have d:=qh A;have l:=(A.block _ (qd u.o)).trans u.o;have h:=(A.block _ (qd t.o)).trans t.o;have c6:y.cell? ⟨w.heap.size+1,0,none⟩=some (.slice none 0 0):=by rw[qc l];rfl
           have z6:y.frozen? ⟨w.heap.size+1,0,none⟩=false:=by unfold World.frozen?;rw[l];simp
           have a3:=qh Y;obtain⟨K,L,rfl⟩:=Y.form;have c7:(y.setCell ⟨w.heap.size+1,0,none⟩ (.slice K m.length L)).cell? ⟨w.heap.size+1+1,0,none⟩=some (.bool false):=by rw[Ad (by simp),qc h];rfl
           have z7:(y.setCell ⟨w.heap.size+1,0,none⟩ (.slice K m.length L)).frozen? ⟨w.heap.size+1+1,0,none⟩=false:=by rw[World.frozen?_setCell];unfold World.frozen?;rw[h];simp
           clear Y l h))
      have b5:Hid (PRow ((y.setCell ⟨w.heap.size+1,0,none⟩ (.slice K m.length L)).setCell ⟨w.heap.size+1+1,0,none⟩ (.bool true)) w.heap.size (.slice K m.length L) m):=by
        show PRow _ _ _ _;have e9:=c.o.size;have f7:=a9.o;have h6:=r.o.size;have b4:=a3.o.lt;refine ((a3.o.chg (Chg.setCell y (w.heap.size+1) 0 _) (fun b T fz e G=>?_) (fun b hb e=>?_)).chg (Chg.setCell _ (w.heap.size+1+1) 0 _) (fun b T fz e G=>?_) (fun b hb e=>?_)).mono e9
        · subst e
          have l:=(d.o.block _ (qd u.o)).trans u.o;rw[l]at G;injection G with G;injection G with _ h1 _;exact absurd h1 (by decide)
        · have:=(b4 b hb).1
          omega
        · subst e
          have h:=(d.o.block _ (qd t.o)).trans t.o;rw[Below.heap_setCell _ _ _ _ (by show w.heap.size+1+1≠w.heap.size+1;omega),h]at G;injection G with G;injection G with _ h1 _;exact absurd h1 (by decide)
        · have:=(b4 b hb).1
          omega
      have V:qw w ((y.setCell ⟨w.heap.size+1,0,none⟩ (.slice K m.length L)).setCell ⟨w.heap.size+1+1,0,none⟩ (.bool true)):=((c.o.trans (d.o.mono c.o.size)).setCell (p:=⟨_,_,none⟩) (by show w.heap.size<=w.heap.size+1;omega) _).setCell (p:=⟨_,_,none⟩) (by show w.heap.size<=w.heap.size+1+1;omega) _;have f1:((y.setCell ⟨w.heap.size+1,0,none⟩ (.slice K m.length L)).setCell ⟨w.heap.size+1+1,0,none⟩ (.bool true)).cell? ⟨w.heap.size+1,0,none⟩=some (.slice K m.length L):=by rw[Ad (by simp)];exact Aq c6
      have f2:((y.setCell ⟨w.heap.size+1,0,none⟩ (.slice K m.length L)).setCell ⟨w.heap.size+1+1,0,none⟩ (.bool true)).cell? ⟨w.heap.size+1+1,0,none⟩=some (.bool true):=Aq c7;refine leaves_cons (f:=125) (args:=#[.pointer (some ⟨w.heap.size+1,0,none⟩),.pointer (some ⟨w.heap.size+1+1,0,none⟩)]) (by simp) (by simp[go_sem]) ?_;refine (catch_idle ⟨w.heap.size+1,0,none⟩ ⟨w.heap.size+1+1,0,none⟩ _).mono ?_;rintro e7 u' w7 ⟨rfl,rfl,rfl⟩;generalize (y.setCell ⟨w.heap.size+1,0,none⟩ (.slice K m.length L)).setCell ⟨w.heap.size+1+1,0,none⟩ (.bool true)=w7 at*;simp[Leaves,settle,results,results84,go_sem,f1,f2];exact⟨⟨_,rfl,b5.o⟩,V⟩
end ReMem
namespace ReMem
open Go Go.RowKit MatchMath Strs Own
theorem Bw (e:Re) (v:Value) (w:World) (U:size e<=4000) (a:Ag e) (x:Lies w v e.args):
  Calls Tryz.prog 37 #[Ac v e] w fun r w'=>r=.returned (.int .i64 (Bz e))/\qw w w':=by
 have Q:=qh (fun W (hb:qw w W)=>refTyped_any (size e+1) e v W (Nat.lt_succ_self _) a (x.stays hb));have HR:=qh (fun W (hb:qw w W)=>Yl (size e+1) e v 0 W (Nat.lt_succ_self _) (by omega) a (x.stays hb));have P:=qh (fun W (hb:qw w W)=>refNamed_any W (size e+1) e v [] (.slice none 0 0) W (Nat.lt_succ_self _) (by simp;omega) a (x.stays hb) (Below.refl _ _) (Row.nil _ _ _ _));have R:=qh (fun W (hb:qw w W)=>refSize_any (size e+1) e v W (Nat.lt_succ_self _) (by omega) a (x.stays hb));have HG:=qh (fun W (hb:qw w W)=>Dc (size e+1) e v W (Nat.lt_succ_self _) (by omega) a (x.stays hb));have O:=qh (fun W (hb:qw w W)=>Yj (size e+1) e v W (Nat.lt_succ_self _) (by omega) a (x.stays hb));have A:Hid (Bz e=if typed e=false then 7 else if ranged e 0=false then 2 else if named e []=false then 4 else if 600<size e\/9<Af 6 e\/32<levels e then 3 else 0):=by show _=_;rfl
 unfold Ac at Q HR P R HG O ⊢;have M:=Ip 6 e;clear a x;generalize Bz e=CC at*;generalize e.op=o at*;generalize e.lo=l at*;generalize e.hi=h at*;generalize e.group=g at*;generalize Sets.Aa e.set 0=x0 at*;generalize Sets.Aa e.set 1=x1 at*;generalize Sets.Aa e.set 2=x2 at*;generalize Sets.Aa e.set 3=x3 at*;have z:=qh (qb w (.cells #[.int .i64 o,.int .u64 x0,.int .u64 x1,.int .u64 x2,.int .u64 x3,.int .i64 l,.int .i64 h,.int .i64 g,v] 28));have B:=qh (Box9.new w o x0 x1 x2 x3 l h g v 28);generalize typed e=TB at*;generalize ranged e 0=RB at*;generalize named e []=NB at*;have J:(TB=false/\CC=7)\/(TB=true/\RB=false/\CC=2)\/(TB=true/\RB=true/\NB=false/\CC=4)\/(TB=true/\RB=true/\NB=true/\600< (size e:Int)/\CC=3)\/(TB=true/\RB=true/\NB=true/\(size e:Int)<=600/\9< (Af 6 e:Int)/\CC=3)
   \/(TB=true/\RB=true/\NB=true/\(size e:Int)<=600/\(Af 6 e:Int)<=9/\32< (levels e:Int)/\CC=3)\/(TB=true/\RB=true/\NB=true/\(size e:Int)<=600/\(Af 6 e:Int)<=9/\(levels e:Int)<=32/\CC=0):=by
  have c:=A.o;cases TB with
  | false=>exact .inl ⟨rfl,by rw[c,if_pos rfl]⟩
  |true=>
   rw[if_neg (by decide)]at c;cases RB with
   | false=>exact .inr (.inl ⟨rfl,rfl,by rw[c,if_pos rfl]⟩)
   |true=>
    rw[if_neg (by decide)]at c;cases NB with
    | false=>exact .inr (.inr (.inl ⟨rfl,rfl,rfl,by rw[c,if_pos rfl]⟩))
    |  true=>
       rw[if_neg (by decide)]at c;by_cases h1:600<size e
       · exact .inr (.inr (.inr (.inl ⟨rfl,rfl,rfl,by omega,by rw[c,if_pos (.inl h1)]⟩)))
       ·by_cases h2:9<Af 6 e
        · exact .inr (.inr (.inr (.inr (.inl ⟨rfl,rfl,rfl,by omega,by omega,by rw[c,if_pos (.inr (.inl h2))]⟩))))
        ·by_cases h3:32<levels e
         · exact .inr (.inr (.inr (.inr (.inr (.inl ⟨rfl,rfl,rfl,by omega,by omega,by omega,by rw[c,if_pos (.inr (.inr h3))]⟩)))))
         · exact .inr (.inr (.inr (.inr (.inr (.inr ⟨rfl,rfl,rfl,by omega,by omega,by omega,by rw[c,if_neg (by omega)]⟩)))))
 clear A U M;generalize ((size e:Nat):Int)=SZ at*;generalize ((Af 6 e:Nat):Int)=GR at*;generalize ((levels e:Nat):Int)=LV at*;rcases J with ⟨rfl,rfl⟩ | ⟨rfl,rfl,rfl⟩ | ⟨rfl,rfl,rfl,rfl⟩ | ⟨rfl,rfl,rfl,y,rfl⟩ | ⟨rfl,rfl,rfl,y,I,rfl⟩ | ⟨rfl,rfl,rfl,y,I,N,rfl⟩ | ⟨rfl,rfl,rfl,y,I,N,rfl⟩;all_goals
  go_enter func37,ntmps37;go_wp2_with (first
   | (go_at_call 62
      (refine (Q.o _ z.o).mono ?_);rintro V w1 ⟨rfl,p⟩;have d:=qh (Ab z.o p);have C:=qh (B.o.stays p);obtain⟨d0,d1,d2,d3,d4,d5,d6,d7,d8, -⟩:=B.o.stays p)
   | (go_at_call 63
      (refine (HR.o _ d.o).mono ?_);rintro X w2 ⟨⟨z2,rfl, -⟩,q⟩;have i:=qh (Ab d.o q);have D:=qh (C.o.stays q);clear d0 d1 d2 d3 d4 d5 d6 d7 d8;obtain⟨d0,d1,d2,d3,d4,d5,d6,d7,d8, -⟩:=C.o.stays q)
   | (go_at_call 64
      (refine (P.o _ i.o).mono ?_);rintro Y w3 ⟨⟨z3,rfl, -⟩,b⟩;have b:=b.below ql (fun k _ T=>by cases T);have j:=qh (Ab i.o b);have E:=qh (D.o.stays b);clear d0 d1 d2 d3 d4 d5 d6 d7 d8;obtain⟨d0,d1,d2,d3,d4,d5,d6,d7,d8, -⟩:=D.o.stays b)
   | (go_at_call 65
      (refine (R.o _ j.o).mono ?_);rintro r4 w4 ⟨rfl,t⟩;have m:=qh (Ab j.o t);have G:=qh (E.o.stays t);clear d0 d1 d2 d3 d4 d5 d6 d7 d8;obtain⟨d0,d1,d2,d3,d4,d5,d6,d7,d8, -⟩:=E.o.stays t)
   | (go_at_call 23
      (refine (HG.o _ m.o).mono ?_);rintro r5 w5 ⟨rfl,u⟩;have n:=qh (Ab m.o u);have S:=qh (G.o.stays u);clear d0 d1 d2 d3 d4 d5 d6 d7 d8;obtain⟨d0,d1,d2,d3,d4,d5,d6,d7,d8, -⟩:=G.o.stays u)
   | (go_at_call 66
      (refine (O.o _ n.o).mono ?_);rintro r6 w6 ⟨rfl,L⟩;have K:=qh (Ab n.o L)))
  go_ret;first
   | exact⟨rfl,K.o⟩
   | exact⟨rfl,n.o⟩
   | exact⟨rfl,m.o⟩
   | exact⟨rfl,j.o⟩
   | exact⟨rfl,i.o⟩
   | exact⟨rfl,d.o⟩
end ReMem
namespace ReMem
open Go Go.RowKit MatchMath Strs
def TRes (w:World) (o:Option (List Parse)) (r:Ending) (w':World):Prop:=(match o with
 | none=>r=.returned (.tuple #[.slice none 0 0,.int .i64 11])
 | some l=>∃v,r=.returned (.tuple #[v,.int .i64 0])/\PRow w' w.heap.size v l)/\qw w w'
theorem refTop_any (s:ByteArray) (K:Bool) (e:Re) (v:Value) (i:Nat) (w:World) (D:Lies w v e.args) (r:Ag e) (G:Bz e=0) (U:size e<=100) (S:Af 6 e<=4096) (I:gok (Af 6 e) e=true) (hi:i<=s.size) (T:s.size<=4096):
  Calls Tryz.prog 67 #[Ac v e,.string s,.int .i64 i,.bool K] w (TRes w ((tx s K).parses e i (List.replicate (Af 6 e) Cj))):=by
 have q:=qh (fun W (d:qw w W)=>Bw e v W (by omega) r (D.stays d));rw[G]at q;have y:=qh (fun W (d:qw w W)=>Dc (size e+1) e v W (Nat.lt_succ_self _) (by omega) r (D.stays d));have E:=qh (fun W=>refNone_any (Af 6 e) W S);have A:=qh (fun W sv (d:qw w W) (hs:Al W sv (List.replicate (Af 6 e) Cj))=>Yk s K (Af 6 e) T S (size e+1) (by omega) e v sv i (List.replicate (Af 6 e) Cj) W (Nat.lt_succ_self _) I r (D.stays d) hs (by simp) (Ik _ _) hi);have a1:(i:Int)<=(s.size:Int):=by omega
 have a3:(s.size:Int)<=4096:=by omega
 have a2:((Af 6 e:Nat):Int)<=4096:=by omega
 obtain⟨M,N,rfl⟩:=D.shape;have a0:e.args.length<=9223372036854775807:=by
  obtain⟨a,c,vs,h1,⟨h2,h3⟩, -⟩:=D.opened;exact Nat.le_trans h2 h3
 generalize hL:List.replicate (Af 6 e) Cj=L at*;generalize hR:(tx s K).parses e i L=R at*;unfold Ac at q y A ⊢;clear D r G U S I hL hR;have J:=qh (qb w (.cells #[.int .i64 e.op,.int .u64 (Sets.Aa e.set 0:Nat),.int .u64 (Sets.Aa e.set 1:Nat),.int .u64 (Sets.Aa e.set 2:Nat),.int .u64 (Sets.Aa e.set 3:Nat),.int .i64 e.lo,.int .i64 e.hi,.int .i64 e.group,.slice M e.args.length N] 28));have HX:=qh (Box9.new w e.op (Sets.Aa e.set 0) (Sets.Aa e.set 1) (Sets.Aa e.set 2) (Sets.Aa e.set 3) e.lo e.hi e.group (.slice M e.args.length N) 28);cases R with
 |none=>
  go_enter func67,ntmps67;go_wp2_with (first
   | (go_at_call 37
      (refine (q.o _ J.o).mono ?_);rintro e1 t ⟨rfl,m⟩;have h:=qh (Ab J.o m);have B:=qh (HX.o.stays m);clear m))
  obtain⟨d0,d1,d2,d3,d4,d5,d6,d7,d8, -⟩:=B.o;have g:=qh (fun W (d:qw t W)=>(And.intro (up9 d d0) (And.intro (up9 d d1) (And.intro (up9 d d2) (And.intro (up9 d d3) (And.intro (up9 d d4) (And.intro (up9 d d5) (And.intro (up9 d d6) (And.intro (up9 d d7) (up9 d d8))))))))))
  go_region_held3 (fun V=>xS V w.heap.size e M N) (first | exact g.o _ (Below.refl _ _) | exact g.o _ ((Below.refl _ t).drew) | exact g.o _ l.o | exact g.o _ b.o | exact g.o _ j.o)
   (first
   | (go_at_call 23
      (refine (y.o _ (by first | exact h.o.drew | exact h.o)).mono ?_)
      rintro e2 X ⟨rfl,n⟩;have j:Hid (qw t X):=(by first | exact Ab ((Below.refl _ t).drew) n | exact n)
      clear n)
   | (go_at_call 90
      (refine (E.o _).mono ?_);rintro e3 Y ⟨⟨nv,rfl,p⟩,u⟩;have z:=qh p;have b:Hid (qw t Y):=Ab j.o u;obtain⟨na,nc,rfl⟩:=p.shape;clear p u)
   | (go_at_call 89
      (refine (A.o _ _ (Ab h.o b.o) z.o).mono ?_);rintro e4 w4 ⟨P,C⟩;obtain rfl:=P;have l:Hid (qw t w4):=Ab b.o C;skip
      have x:=qh (Ab h.o l.o)))
  all_goals go_wp2
  all_goals go_ret2
  all_goals exact⟨rfl,x.o⟩
 |some dl=>
  go_enter func67,ntmps67;go_wp2_with (first
   | (go_at_call 37
      (refine (q.o _ J.o).mono ?_);rintro e1 t ⟨rfl,m⟩;have h:=qh (Ab J.o m);have B:=qh (HX.o.stays m);clear m))
  obtain⟨d0,d1,d2,d3,d4,d5,d6,d7,d8, -⟩:=B.o;have g:=qh (fun W (d:qw t W)=>(And.intro (up9 d d0) (And.intro (up9 d d1) (And.intro (up9 d d2) (And.intro (up9 d d3) (And.intro (up9 d d4) (And.intro (up9 d d5) (And.intro (up9 d d6) (And.intro (up9 d d7) (up9 d d8))))))))))
  go_region_held3 (fun V=>xS V w.heap.size e M N) (first | exact g.o _ (Below.refl _ _) | exact g.o _ ((Below.refl _ t).drew) | exact g.o _ l.o | exact g.o _ b.o | exact g.o _ j.o)
   (first
   | (go_at_call 23
      (refine (y.o _ (by first | exact h.o.drew | exact h.o)).mono ?_)
      rintro e2 X ⟨rfl,n⟩;have j:Hid (qw t X):=(by first | exact Ab ((Below.refl _ t).drew) n | exact n)
      clear n)
   | (go_at_call 90
      (refine (E.o _).mono ?_);rintro e3 Y ⟨⟨nv,rfl,p⟩,u⟩;have z:=qh p;have b:Hid (qw t Y):=Ab j.o u;obtain⟨na,nc,rfl⟩:=p.shape;clear p u)
   | (go_at_call 89
      (refine (A.o _ _ (Ab h.o b.o) z.o).mono ?_);rintro e4 w4 ⟨P,C⟩;obtain⟨dv,rfl,Q⟩:=P;have l:Hid (qw t w4):=Ab b.o C;have O:=qh (Q.mono (Nat.le_trans h.o.size b.o.size));have x:=qh (Ab h.o l.o)))
  all_goals go_wp2
  all_goals go_ret2
  all_goals exact⟨⟨_,rfl,O.o⟩,x.o⟩
end ReMem
end Go.Proofs.YtjefcpjciogcjaaGreatDoor
