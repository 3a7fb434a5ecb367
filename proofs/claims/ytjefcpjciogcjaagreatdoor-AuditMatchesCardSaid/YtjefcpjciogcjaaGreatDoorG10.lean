/- Lemmas for the walk of the law, in 6 parts. No condition beyond what each states. -/
import Derived.Test.YtjefcpjciogcjaaGreatDoorG9
import Derived.Test.YtjefcpjciogcjaaGreatDoorG8
import Derived.Laws.CopyRow
import Derived.Laws.CopyOwn
import Derived.OwnWalk
import Derived.Test.YtjefcpjciogcjaaGreatDoorG7
import Derived.Test.YtjefcpjciogcjaaGreatDoorG5
import Derived.Test.YtjefcpjciogcjaaGreatDoorG4
namespace Go.Proofs.YtjefcpjciogcjaaGreatDoor
set_option maxRecDepth 100000
set_option linter.unusedVariables false
set_option maxHeartbeats 16000000
open Tryz
namespace ReMem
open Go Go.RowKit MatchMath SortMath
theorem insSort' (g S c n a b:Nat) (P M R:List El) (w:World) (e:PB w g S (P++(M++R))) (l:(P++(M++R)).length=n) (d:n<=1099511627776) (i:P.length=a) (j:a+M.length=b) (h:∀x∈P++(M++R),0<=x.1/\x.1<=1048576):
  Calls Tryz.prog 236 #[.slice (some ⟨g,0,none⟩) n c,.int .i64 a,.int .i64 b,.func (.func 208) #[] #[]] w (BPost w g S (P++(isort gtE M++R))):=by
 subst l i j;exact insSort_any g S c P M R w e h d
theorem Gu {b:Nat} (c:0<b):∀(k:Nat) (l:List El) (x:El),l.length<=k->x∈As gtE b l->x∈l
 |0,l,x,h,hx=>by
  have:l= []:=List.eq_nil_of_length_eq_zero (by omega);subst this;exact hx
 |k+1,l,x,h,hx=>by
  by_cases hl:l= []
  · subst hl;exact hx
  ·have d:0<l.length:=List.length_pos_iff.2 hl
   rw[Eq c hl]at hx;rcases List.mem_append.1 hx with hx | hx
   ·rcases Ge _ _ _ hx with a | a
    · cases a
    · exact List.mem_of_mem_take a
   · exact List.mem_of_mem_drop (Gu c k (l.drop b) x (by rw[List.length_drop];omega) hx)
theorem Ei {b:Nat} (a:0<b) (l:List El):(As gtE b l).length=l.length:=Lw a l.length l ql
theorem blk_step {l:List El} {b k:Nat} (a:0<b) (h:(k+1)*b<=l.length):As gtE b (l.take ((k+1)*b))=As gtE b (l.take (k*b))++isort gtE ((l.drop (k*b)).take b):=by
 have e:l.take ((k+1)*b)=l.take (k*b)++(l.drop (k*b)).take b:=by
  rw[Nat.succ_mul,List.take_add]
 have c:k*b+b<=l.length:=by rw[Nat.succ_mul]at h;exact h
 rw[e,Hx a k _ _ (by rw[List.length_take];omega)]
 congr 1
 exact Eu a (by rw[List.length_take];omega)
theorem blk_last {l:List El} {b k:Nat} (c:0<b) (h:k*b<=l.length) (d:l.length<=k*b+b):As gtE b l=As gtE b (l.take (k*b))++isort gtE (l.drop (k*b)):=by
 have e:l=l.take (k*b)++l.drop (k*b):=(List.take_append_drop _ _).symm;have a:=Hx (gt:=gtE) c k (l.take (k*b)) (l.drop (k*b)) (by rw[List.length_take];omega);rw[<- e]at a;rw[a,Eu c (l:=l.drop (k*b)) (by rw[List.length_drop];omega)]
theorem blk_two {Z:List El} {b:Nat} (c:0<b) (h:b<=Z.length):As gtE b Z=isort gtE (Z.take b)++As gtE b (Z.drop b):=by
 have a:Z≠ []:=by intro e;subst e;simp at h;omega
 exact Eq c a
theorem stable_any (g S c n:Nat) (l:List El) (w:World) (hB:PB w g S l) (hn:l.length=n) (U:n<=1099511627776) (hE:∀x∈l,0<=x.1/\x.1<=1048576):
  Calls Tryz.prog 224 #[.slice (some ⟨g,0,none⟩) n c,.int .i64 n,.func (.func 208) #[] #[]] w (BPost w g S (isort gtE l)):=by
 have HB:=qh hB;have t:=qh hn;have A:=qh U;have HE:=qh hE;have a9:(n:Int)<=1099511627776:=by omega
 clear hB hn U hE;go_enter func224,ntmps224;go_wp2
 go_loopw [7,8] (fun Y vb wr=>∃(k a b:Nat),Y=.int .i64 (a:Int)/\vb=.int .i64 (b:Int)/\Hid (a=k*20/\b=a+20)/\a<=n/\PB wr g S (As gtE 20 (l.take a)++l.drop a)/\Chg (fun b=>b=g) w wr) (fun Y _ _=>n-(intOf Y).toNat)
 case atStart=>exact⟨0,0,20,rfl,rfl,⟨rfl,rfl⟩,Nat.zero_le _,by simpa [Kv] using HB.o,Chg.of (Below.refl _ _)⟩
 case round=>
  obtain⟨k,a,b,rfl,rfl,E,X,D,i⟩:=hrel;have j:=qh D;have u:=qh i;clear D i;by_cases hlt:b<=n
  ·have b1:(b:Int)<=(n:Int):=by omega
   have O:=qh (insSort' g S c n a b (As gtE 20 (l.take a)) ((l.drop a).take 20) (l.drop b) wr (by
     have e:=j.o;have J:l.drop a=(l.drop a).take 20++l.drop b:=by
        rw[E.out.2,<-List.drop_drop,List.take_append_drop]
     rw[J]at e;exact e) (by
     have C:=t.o;have Q:=E.out.2;simp only[List.length_append,Ei (show 0<20 by decide),List.length_take,List.length_drop];omega) A.o (by rw[Ei (by decide),List.length_take];have:=t.o;omega) (by have C:=t.o;have Q:=E.out.2;simp only[List.length_take,List.length_drop];omega) (fun x p=>HE.o x (by
        rcases List.mem_append.1 p with p | p
        · exact List.mem_of_mem_take (Gu (by decide) _ _ x ql p)
        ·rcases List.mem_append.1 p with p | p
         · exact List.mem_of_mem_drop (List.mem_of_mem_take p)
         · exact List.mem_of_mem_drop p)))
   go_wp2_with (first
    | (go_at_call 236
       (with_reducible refine (O.o).mono ?_);rintro e1 w1 ⟨rfl,r,q⟩;have y:=qh r;have G:=qh (u.o.then q);clear r q))
   go_roundw
   case rel=>exact⟨k+1,b,b+20,rfl,by go_num,⟨by have:=E.out;omega,rfl⟩,hlt,by
    have e:=y.o;have C:=E.out;have J:=blk_step (l:=l) (b:=20) (k:=k) (by decide) (by rw[t.o];omega);rw[show (k+1)*20=b by omega,show k*20=a by omega]at J;rw[J,List.append_assoc];exact e,G.o⟩
   case measure=>have:=E.out;simp[intOf];omega
  ·have b1:¬(b:Int)<=(n:Int):=by omega
   have a0:=qh X;have O:=qh (insSort' g S c n a n (As gtE 20 (l.take a)) (l.drop a) [] wr (by
     have e:=j.o;rw[List.append_nil];exact e) (by
     have C:=t.o;simp only[List.length_append,Ei (show 0<20 by decide),List.length_take,List.length_drop,List.length_nil];omega) A.o (by rw[Ei (by decide),List.length_take];have:=t.o;omega) (by have C:=t.o;simp only[List.length_drop];omega) (fun x p=>HE.o x (by
        rcases List.mem_append.1 p with p | p
        · exact List.mem_of_mem_take (Gu (by decide) _ _ x ql p)
        ·rcases List.mem_append.1 p with p | p
         · exact List.mem_of_mem_drop p
         · cases p)))
   have a6:Hid (As gtE 20 (l.take a)++(isort gtE (l.drop a)++ [])=As gtE 20 l):=by
    show _=_;have C:=E.out;have J:=blk_last (l:=l) (b:=20) (k:=k) (by decide) (by rw[t.o];omega) (by rw[t.o];omega);rw[show k*20=a by omega]at J;rw[J,List.append_nil]
   rw[a6.o]at O;go_wp2_with (first
    | (go_at_call 236
       (with_reducible refine (O.o).mono ?_);rintro e1 w1 ⟨rfl,r,q⟩;have y:=qh r;have G:=qh (u.o.then q);clear r q))
   go_loopw [6] (fun vb wr=>∃(d:Nat),vb=.int .i64 (d:Int)/\Hid (20<=d)/\Hid (d<=2*n+20)/\PB wr g S (As gtE d l)/\Chg (fun b=>b=g) w wr) (fun vb _=>n-(intOf vb).toNat)
   case atStart=>exact⟨20,rfl,Nat.le_refl 20,by show _<=_;omega,y.o,G.o⟩
   case round=>
    obtain⟨d,rfl,M,a1,D,i⟩:=hrel;have j:=qh D;have u:=qh i;have a7:(d:Int)<=2199023255572:=by have C:=a1.out;have Q:=A.o;omega
    have a8:(20:Int)<=(d:Int):=by have C:=M.out;omega
    have a4:0<d:=by omega
    have h:=qh a4;clear D i a4;by_cases hlt:d<n
    ·have b1:(d:Int)< (n:Int):=by omega
     have P:=qh hlt
     rename World=>wm
     go_wp2
     go_loopw [7,8] (fun Y vb wr=>∃(k a b:Nat),Y=.int .i64 (a:Int)/\vb=.int .i64 (b:Int)/\Hid (a=k*(2*d)/\b=a+2*d)/\a<=n/\PB wr g S (As gtE (2*d) (l.take a)++As gtE d (l.drop a))/\Chg (fun b=>b=g) w wr) (fun Y _ _=>n-(intOf Y).toNat)
     case atStart=>exact⟨0,0,2*d,by go_num,by go_num,⟨by omega,by omega⟩,Nat.zero_le _,by simpa [Kv] using j.o,u.o⟩
     case round=>
        obtain⟨k,a,b,rfl,rfl,E,X,D,i⟩:=hrel;have j:=qh D;have u:=qh i;clear D i;have a3:0<2*d:=by have:=h.o;omega
        have K:=qh a3;clear a3;obtain⟨m,hm⟩:∃m,a+d=m:=⟨_,rfl⟩;have b0:(a:Int)+(d:Int)=(m:Int):=by omega
        have HM:=qh hm;have a0:=qh X;have V:∀x∈As gtE (2*d) (l.take a)++As gtE d (l.drop a),0<=x.1/\x.1<=1048576:=fun x p=>HE.o x (by
         rcases List.mem_append.1 p with p | p
         · exact List.mem_of_mem_take (Gu K.o _ _ x ql p)
         · exact List.mem_of_mem_drop (Gu h.o _ _ x ql p))
        have B:=qh V;have T:(As gtE (2*d) (l.take a)++As gtE d (l.drop a)).length=n:=by
         rw[List.length_append,Ei K.o,Ei h.o,List.length_take,List.length_drop];have:=t.o;omega
        have z:=qh T;have a5:(As gtE (2*d) (l.take a)).length=a:=by rw[Ei K.o,List.length_take];have:=t.o;omega
        have a2:=qh a5;clear hm V T a5;by_cases hblt:b<=n
        ·have b2:(b:Int)<=(n:Int):=by omega
         have L:Hid (As gtE d (l.drop a)=isort gtE ((l.drop a).take d)++(isort gtE ((l.drop m).take d)++As gtE d (l.drop b))):=by
          show _=_;have C:=E.out.2;have Q:=HM.o;rw[blk_two h.o (by rw[List.length_drop];have:=t.o;omega),List.drop_drop,Q,blk_two h.o (Z:=l.drop m) (by rw[List.length_drop];have:=t.o;omega),List.drop_drop,show m+d=b by omega]
         have O:=qh (Qt _ g S c n a m b (As gtE (2*d) (l.take a)) (isort gtE ((l.drop a).take d)) (isort gtE ((l.drop m).take d)) (As gtE d (l.drop b)) wr (Nat.lt_succ_self _) (by
          have h0:=h.o;have C:=E.out.2;have Q:=HM.o;have W:=t.o;have hp:=j.o;have hl:=z.o;have he:=B.o;rw[L.o]at hp hl he;have l1:(isort gtE ((l.drop a).take d)).length=d:=by rw[Cm,List.length_take,List.length_drop];omega
          have l2:(isort gtE ((l.drop m).take d)).length=d:=by rw[Cm,List.length_take,List.length_drop];omega
          exact⟨hp,hl,A.o,a2.o,by omega,by omega,by omega,by omega,Gk Dy _,Gk Dy _,he⟩))
         have R:Hid (As gtE (2*d) (l.take a)++(Ao gtE (isort gtE ((l.drop a).take d)) (isort gtE ((l.drop m).take d))++As gtE d (l.drop b))=As gtE (2*d) (l.take b)++As gtE d (l.drop b)):=by
          show _=_;have C:=E.out;have Q:=HM.o;have W:=t.o;have N:(k+1)*(2*d)=b:=by rw[Nat.succ_mul];omega
          have J:=blk_step (l:=l) (b:=2*d) (k:=k) K.o (by rw[N,W];exact hblt);rw[N,<-C.1]at J;have e3:=merge_two Dy ((l.drop a).take (2*d)) d;rw[List.take_take,Nat.min_eq_left (by omega),List.drop_take,List.drop_drop,Q,show 2*d-d=d by omega]at e3;rw[J,e3,List.append_assoc]
         rw[R.o]at O;clear R L B z j;go_wp2_with (first
          | (go_at_call 237
             (with_reducible refine (O.o).mono ?_);rintro e1 w1 ⟨rfl,r,q⟩;have y:=qh r;have G:=qh (u.o.then q);clear r q))
         go_roundw
         case rel=>exact⟨k+1,b,b+2*d,rfl,by go_num,⟨by have:=E.out;rw[Nat.succ_mul];omega,rfl⟩,hblt,y.o,G.o⟩
         case measure=>have:=E.out;have:=h.o;simp[intOf];omega
        ·have b2:¬(b:Int)<=(n:Int):=by omega
         have I:Hid (As gtE (2*d) l=As gtE (2*d) (l.take a)++isort gtE (l.drop a)):=by
          show _=_;have C:=E.out;have W:=t.o;have J:=blk_last (l:=l) (b:=2*d) (k:=k) K.o (by rw[W,<-C.1];exact a0.o) (by rw[W,<-C.1];omega);rw[<- C.1]at J;exact J
         by_cases hmn:m<n
         ·have b3:(m:Int)< (n:Int):=by omega
          have L:Hid (As gtE d (l.drop a)=isort gtE ((l.drop a).take d)++(isort gtE ((l.drop a).drop d)++ [])):=by
           show _=_;have C:=E.out.2;have Q:=HM.o;have W:=t.o;rw[blk_two h.o (by rw[List.length_drop];omega),Eu h.o (l:=(l.drop a).drop d) (by rw[List.length_drop,List.length_drop];omega),List.append_nil]
          have O:=qh (Qt _ g S c n a m n (As gtE (2*d) (l.take a)) (isort gtE ((l.drop a).take d)) (isort gtE ((l.drop a).drop d)) [] wr (Nat.lt_succ_self _) (by
           have h0:=h.o;have C:=E.out.2;have Q:=HM.o;have W:=t.o;have hp:=j.o;have hl:=z.o;have he:=B.o;rw[L.o]at hp hl he;have l1:(isort gtE ((l.drop a).take d)).length=d:=by rw[Cm,List.length_take,List.length_drop];omega
           have l2:(isort gtE ((l.drop a).drop d)).length=n-m:=by rw[Cm,List.length_drop,List.length_drop];omega
           exact⟨hp,hl,A.o,a2.o,by omega,by omega,by omega,by omega,Gk Dy _,Gk Dy _,he⟩))
          rw[merge_two Dy (l.drop a) d,List.append_nil,<-I.o]at O;clear I L B z j;go_wp2_with (first
           | (go_at_call 237
              (with_reducible refine (O.o).mono ?_);rintro e1 w1 ⟨rfl,r,q⟩;have y:=qh r;have G:=qh (u.o.then q);clear r q))
          go_roundw
          case rel=>exact⟨2*d,by go_num,by show _<=_;have:=M.out;omega,by show _<=_;have:=P.o;omega,y.o,G.o⟩
          case measure=>have:=P.o;have:=h.o;simp[intOf];omega
         ·have b3:¬(m:Int)< (n:Int):=by omega
          have y:Hid (PB wr g S (As gtE (2*d) l)):=by
           show PB _ _ _ _;have e:=j.o;rw[Eu h.o (l:=l.drop a) (by rw[List.length_drop];have:=t.o;have:=HM.o;omega),<-I.o]at e;exact e
          clear I B z j;go_wp2;go_roundw
          case rel=>exact⟨2*d,by go_num,by show _<=_;have:=M.out;omega,by show _<=_;have:=P.o;omega,y.o,u.o⟩
          case measure=>have:=P.o;have:=h.o;simp[intOf];omega
    ·have b1:¬(d:Int)< (n:Int):=by omega
     go_wp2;go_end0;refine⟨rfl,?_,u.o⟩;rw[<- Eu (gt:=gtE) h.o (l:=l) (by rw[t.o];omega)];exact j.o
theorem Na (g S c n:Nat) (l:List El) (w:World) (i:PB w g S l) (m:l.length=n) (b:n<=1099511627776) (j:∀x∈l,0<=x.1/\x.1<=1048576):
  Calls Tryz.prog 207 #[.slice (some ⟨g,0,none⟩) n c,.func (.func 208) #[] #[]] w (BPost w g S (isort gtE l)):=by
 have p:=qh (stable_any g S c n l w i m b j);clear i m j;go_enter func207,ntmps207;go_wp2_with (first
  | (go_at_call 224
     (with_reducible refine (p.o).mono ?_);rintro q r ⟨rfl,d,a⟩;have h:=qh d;have e:=qh a;clear d a))
 go_end0;exact⟨rfl,h.o,e.o⟩
end ReMem
namespace ReMem
open Go Go.RowKit MatchMath SortMath
theorem ins_none (a:Option Addr) (c:Nat) (w:World):Calls Tryz.prog 236 #[.slice a 0 c,.int .i64 0,.int .i64 0,.func (.func 208) #[] #[]] w fun r w'=>r=.returned (.tuple #[])/\qw w w':=by
 go_enter func236,ntmps236;go_wp2
 go_loopw [8] (fun i wr=>i=.int .i64 1/\wr=w) (fun _ _=>0)
 case atStart=>exact⟨rfl,rfl⟩
 case round=>
  obtain⟨rfl,rfl⟩:=hrel;go_wp2;go_end0;exact⟨rfl,Below.refl _ _⟩
theorem stable_none (a:Option Addr) (c:Nat) (w:World):Calls Tryz.prog 224 #[.slice a 0 c,.int .i64 0,.func (.func 208) #[] #[]] w fun r w'=>r=.returned (.tuple #[])/\qw w w':=by
 go_enter func224,ntmps224;go_wp2
 go_loopw [7,8] (fun a b wr=>a=.int .i64 0/\b=.int .i64 20/\wr=w) (fun _ _ _=>0)
 case atStart=>exact⟨rfl,rfl,rfl⟩
 case round=>
  obtain⟨rfl,rfl,rfl⟩:=hrel;go_wp2_with (first
   | (go_at_call 236
      (with_reducible refine (ins_none _ _ _).mono ?_);rintro h g ⟨rfl,d⟩;have e:=qh d;clear d))
  go_loopw [6] (fun b wr=>b=.int .i64 20/\wr=g) (fun _ _=>0)
  case atStart=>exact⟨rfl,rfl⟩
  case round=>
   obtain⟨rfl,rfl⟩:=hrel;go_wp2;go_end0;exact⟨rfl,e.o⟩
theorem Uk (a:Option Addr) (c:Nat) (w:World):Calls Tryz.prog 207 #[.slice a 0 c,.func (.func 208) #[] #[]] w fun r w'=>r=.returned (.tuple #[])/\qw w w':=by
 go_enter func207,ntmps207;go_wp2_with (first
  | (go_at_call 224
     (with_reducible refine (stable_none _ _ _).mono ?_);rintro e g ⟨rfl,b⟩;have d:=qh b;clear b))
 go_end0;exact⟨rfl,d.o⟩
end ReMem
namespace ReMem
open Go Go.RowKit MatchMath SortMath
theorem PB.lies {w:World} {g cap:Nat} {zs:List (Z w)} (h:PB w g (cap*2) (zs.map Z.el)) (i:zs.length<=cap) (l:cap<=maxLen):PLies w (.slice (some ⟨g,0,none⟩) zs.length cap) (zs.map Z.pa):=by
 obtain⟨b,e,n,m⟩:=h.blk;refine⟨some ⟨g,0,none⟩,cap,by rw[List.length_map],⟨by rw[List.length_map];exact i,l⟩,fun _=>⟨g,0,b,(0,0),rfl,e,fun j p a=>?_⟩⟩;rw[List.getElem?_map]at a;cases hz:zs[j]? with
 | none=>rw[hz]at a;cases a
 |some z=>
  rw[hz]at a;simp only[Option.map_some,Option.some.injEq]at a;obtain⟨c,d⟩:=m j z.el (by rw[List.getElem?_map,hz];rfl);refine⟨elV z.el,?_,?_,?_⟩
  ·rw[Nat.zero_add,c,<-a]
   exact congrArg (fun y=>some (Value.int .i64 y)) z.2.1
  · rw[Nat.zero_add];exact d
  · rw[<- a];exact z.2.2
theorem done_byEnd {n:Nat} {l:List Parse} (h:∀p∈l,p.1<=n):lim (dd (Br n l))=done n l:=by
 rw[dd_byEnd];have a:(Br n (dd l)).length=(dd l).length:=by
  rw[<- Tb n (dd l) (fun p b=>h p (Pc.1 b)),Cm]
 unfold done lim;rw[a];split <;> rfl
theorem sorted_any (n:Nat) (v:Value) (l:List Parse) (w:World) (h:PLies w v l) (hl:l.length<=1099511627776) (hf:∀p∈l,PFit p) (hn:∀p∈l,p.1<=n) (ht:Tabs w):
  Calls Tryz.prog 172 #[v] w (PRes w (done n l)):=by
 rw[<- done_byEnd hn,<-Tb n l hn];have HC:=qh (cloneP_any v l w h hl);have HT:=qh ht;have HF:=qh hf;have HL:=qh hl;obtain⟨a,c,rfl⟩:=h.shape;clear h hl hf hn ht;by_cases h0:l= []
 ·subst h0
  have a4:Hid (lim (dd (isort gtP ([]:List Parse)))=some []):=rfl;rw[a4.o];go_enter func172,ntmps172;go_wp2_with (first
   | (go_at_call 206
      (refine HC.o.mono ?_);rintro e1 C ⟨i,r⟩;rcases i with ⟨-,a1,rfl⟩ | ⟨L,c1,zs, -,h9, -⟩;rotate_left
      · exact absurd rfl h9
      have q:=qh r;clear r)
   | (go_at_call 207
      (refine (Uk _ _ _).mono ?_);rintro M N ⟨rfl,a2⟩;have d:=qh (q.o.trans (a2.mono q.o.size));clear a2)
   | (go_at_call 170
      (refine (Wr _ [] _ ⟨_,_,rfl,⟨Nat.zero_le _,Nat.zero_le _⟩,fun h=>absurd rfl h⟩ (Nat.zero_le _) (fun p hp=>by cases hp) (HT.o.stays d.o)).mono ?_);rintro e3 w3 ⟨⟨v3,rfl,g⟩,t⟩;obtain⟨a3,c3,rfl⟩:=g.form;have T:=qh (g.mono d.o.size);have E:=qh (d.o.trans (t.mono d.o.size));clear t g))
  go_ret;exact⟨⟨_,rfl,T.o⟩,E.o⟩
 ·obtain⟨R,hR⟩:∃R,lim (dd (isort gtP l))=R:=⟨_,rfl⟩
  rw[hR];have HR:=qh hR;have H0:=qh h0;clear hR h0;have S:=qh (fun W v (h:PLies W v (isort gtP l)) (ht:Tabs W)=>Wr v (isort gtP l) W h (by rw[Cm];exact HL.o) (fun p hp=>HF.o p (by rcases Ge _ _ _ hp with h | h;cases h;exact h)) ht);rw[HR.o]at S;cases R with
  |none=>
   go_enter func172,ntmps172;go_wp2_with (first
    | (go_at_call 206
       (refine HC.o.mono ?_);rintro e1 C ⟨i,r⟩;rcases i with ⟨h9, -⟩ | ⟨L,c1,zs,rfl, -,j,B,hg,J,I⟩
       · exact absurd h9 H0.o
       have q:=qh r;have X:=qh j;have HG:=qh hg;have P:=qh J;have O:=qh I;have G:Hid (zs.length=l.length):=by show _=_;rw[<- j,List.length_map]
       have V:=qh (Na L (c1*2) c1 l.length (zs.map Z.el) C B (by rw[List.length_map];exact G.o) HL.o (fun x D=>by
        obtain⟨z,hz,rfl⟩:=List.mem_map.1 D;have i:=z.2.1;have Y:=HF.o z.pa (by rw[<- j];exact List.mem_map_of_mem hz);have h3:=Y.2.2;have h4:z.el.1=(z.pa.1:Int):=i;omega))
       have Q:Hid (NoSp (fun b=>b=L) C):=fun b a5 fz e D=>by
        subst e;obtain⟨a0,i, -⟩:=B.blk;rw[i]at D;injection D with D;injection D with _ i _;exact absurd i (by decide)
       clear r j B hg J I)
    | (go_at_call 207
       (refine V.o.mono ?_);rintro M N ⟨rfl,A,y⟩;have d:Hid (qw w N):=q.o.trans (y.below q.o.size (fun k hk e=>by have:=HG.o;omega));have U:Hid (PLies N (.slice (some ⟨L,0,none⟩) l.length c1) (isort gtP l)):=by
        have e1:isort gtE (zs.map Z.el)=(isort (fun a b:Z C=>gtE a.el b.el) zs).map Z.el:=Nn Z.el (fun _ _=>rfl) zs;have M:isort gtP (zs.map Z.pa)=(isort (fun a b:Z C=>gtE a.el b.el) zs).map Z.pa:=Nn Z.pa (fun a b=>by
         have i:a.el.1=(a.pa.1:Int):=a.2.1;have Y:b.el.1=(b.pa.1:Int):=b.2.1;unfold gtP gtE;rw[i,Y,decide_eq_decide];omega) zs
        rw[e1]at A;rw[X.o]at M;have u:(isort (fun a b:Z C=>gtE a.el b.el) zs).length=l.length:=by rw[Cm,G.o]
        generalize isort (fun a b:Z C=>gtE a.el b.el) zs=zt at*;have g:PB N L (c1*2) ((zt.map (Z.chg y Q.o)).map Z.el):=by rw[List.map_map];exact A
        have K:=g.lies (by rw[List.length_map,u];exact P.o) O.o;rw[List.length_map,u,List.map_map]at K;rw[M];exact K
       clear A y)
    | (go_at_call 170
       (refine (S.o _ _ U.o (HT.o.stays d.o)).mono ?_);rintro e3 w3 ⟨h3,t⟩;have a6:e3=.panicked [{v:=.iface 184 (.agg #[]),recovered:=false}]:=h3;subst a6;have E:=qh (d.o.trans (t.mono d.o.size));clear t))
   exact⟨rfl,rfl,E.o⟩
  |some m=>
   go_enter func172,ntmps172;go_wp2_with (first
    | (go_at_call 206
       (refine HC.o.mono ?_);rintro e1 C ⟨i,r⟩;rcases i with ⟨h9, -⟩ | ⟨L,c1,zs,rfl, -,j,B,hg,J,I⟩
       · exact absurd h9 H0.o
       have q:=qh r;have X:=qh j;have HG:=qh hg;have P:=qh J;have O:=qh I;have G:Hid (zs.length=l.length):=by show _=_;rw[<- j,List.length_map]
       have V:=qh (Na L (c1*2) c1 l.length (zs.map Z.el) C B (by rw[List.length_map];exact G.o) HL.o (fun x D=>by
        obtain⟨z,hz,rfl⟩:=List.mem_map.1 D;have i:=z.2.1;have Y:=HF.o z.pa (by rw[<- j];exact List.mem_map_of_mem hz);have h3:=Y.2.2;have h4:z.el.1=(z.pa.1:Int):=i;omega))
       have Q:Hid (NoSp (fun b=>b=L) C):=fun b a5 fz e D=>by
        subst e;obtain⟨a0,i, -⟩:=B.blk;rw[i]at D;injection D with D;injection D with _ i _;exact absurd i (by decide)
       clear r j B hg J I)
    | (go_at_call 207
       (refine V.o.mono ?_);rintro M N ⟨rfl,A,y⟩;have d:Hid (qw w N):=q.o.trans (y.below q.o.size (fun k hk e=>by have:=HG.o;omega));have U:Hid (PLies N (.slice (some ⟨L,0,none⟩) l.length c1) (isort gtP l)):=by
        have e1:isort gtE (zs.map Z.el)=(isort (fun a b:Z C=>gtE a.el b.el) zs).map Z.el:=Nn Z.el (fun _ _=>rfl) zs;have M:isort gtP (zs.map Z.pa)=(isort (fun a b:Z C=>gtE a.el b.el) zs).map Z.pa:=Nn Z.pa (fun a b=>by
         have i:a.el.1=(a.pa.1:Int):=a.2.1;have Y:b.el.1=(b.pa.1:Int):=b.2.1;unfold gtP gtE;rw[i,Y,decide_eq_decide];omega) zs
        rw[e1]at A;rw[X.o]at M;have u:(isort (fun a b:Z C=>gtE a.el b.el) zs).length=l.length:=by rw[Cm,G.o]
        generalize isort (fun a b:Z C=>gtE a.el b.el) zs=zt at*;have g:PB N L (c1*2) ((zt.map (Z.chg y Q.o)).map Z.el):=by rw[List.map_map];exact A
        have K:=g.lies (by rw[List.length_map,u];exact P.o) O.o;rw[List.length_map,u,List.map_map]at K;rw[M];exact K
       clear A y)
    | (go_at_call 170
       (refine (S.o _ _ U.o (HT.o.stays d.o)).mono ?_);rintro e3 w3 ⟨⟨v3,rfl,g⟩,t⟩;obtain⟨a3,c3,rfl⟩:=g.form;have T:=qh (g.mono d.o.size);have E:=qh (d.o.trans (t.mono d.o.size));clear t g))
   go_ret;exact⟨⟨_,rfl,T.o⟩,E.o⟩
end ReMem
namespace ReMem
open Go Go.RowKit
variable {P:Program}
theorem run_copy_all (w:World) (q C ty a:TypeId) (g n c:Nat) (p:Option Addr) (D size:Nat) (cur:Array Value) (t:TypeId) (news:List Value)
  (y:P.underlying q=some (.slice a)) (u:(P.info? a).map (·.size)=some size)
  (r:w.heap[g]? =some (.cells cur t (0,0))) (B:news.length=n*size) (A:cur.size=n*size)
  (d:0<n->∃ad,p=some ad/\∀j v,news[j]? =some v->w.cell? (ad.add j)=some v) (z:∀v∈news,v.oneCell'=true):
  (Builtin.copy_ #[q,C] ty #[.slice (some ⟨g,0,none⟩) n c,.slice p n D]).run P w=.ok (goInt n) (w.setRow g news.toArray):=by
 cases hq:P.info? a with
 | none=>simp[hq]at u
 |some i=>
  have hi:i.size=size:=by simpa [hq] using u
  by_cases h0:n=0
  ·subst h0
   have o:news= []:=List.eq_nil_of_length_eq_zero (by omega);subst o;have m:cur=#[]:=by
    apply Array.eq_empty_of_size_eq_zero;omega
   subst m;have l:∀(x:Addr),(loadCells x 0).run P w=.ok #[] w:=fun x=>by simpa using run_loadCells_list (P:=P) w x [] (by simp)
   have e:=setRow_self w g #[] t (0,0) r;cases p <;> simp[Builtin.copy_,run_underlying y,Builtin.lenOf,Builtin.firstCells,sizeOf,typeInfo,hq,storeCells,l,e]
  ·obtain⟨ad,rfl,b⟩:=d (by omega)
   have l:=run_loadCells_list (P:=P) w ad news b;have h:=run_storeCells_at P g 0 t news 0 cur w r (by omega) z;have e:(cur.toList.take (0+0)++news++cur.toList.drop (0+0+news.length)).toArray=news.toArray:=by
    rw[List.drop_eq_nil_of_le (by simp;omega)];simp
   rw[e]at h;rw[B]at l;simp[Builtin.copy_,run_underlying y,Builtin.lenOf,Builtin.firstCells,sizeOf,typeInfo,hq,hi,l,h]
theorem Ly {w:World} {ops:Array Oper} {e:List Oper} {o:Oper} {a:Act} {Q:Exit->Act->World->Prop} (m:o.guard=none) (d s:Operand) (l q:TypeId)
  (x:o.op=.call {callee:=.builtin .copy,args:=#[d,s],argTypes:=#[l,q]}) (b:TypeId) (y:P.underlying l=some (.slice b)) (size:Nat) (p:(P.info? b).map (·.size)=some size)
  (g n c:Nat) (sp:Option Addr) (sc:Nat) (hd:a.eval d=.slice (some ⟨g,0,none⟩) n c) (hs:a.eval s=.slice sp n sc)
  (cur:Array Value) (t:TypeId) (hg:w.heap[g]? =some (.cells cur t (0,0))) (news:List Value) (hn:news.length=n*size) (hcs:cur.size=n*size)
  (hsrc:0<n->∃ad,sp=some ad/\∀j v,news[j]? =some v->w.cell? (ad.add j)=some v) (h1:∀v∈news,v.oneCell'=true)
  (h:∀w',w'.heap[g]? =some (.cells news.toArray t (0,0))->(∀k,k≠g->w'.heap[k]? =w.heap[k]?)->w'.heap.size=w.heap.size->w'.os=w.os->w'.tape=w.tape->w'.output=w.output->wpList P ops Q e (a.put o.dst (goInt n)) w'):wpList P ops Q (o::e) a w:=by
 refine wpList_plain m fun K r=>?_;have i:=run_copy_all (P:=P) w l q o.type b g n c sp sc size cur t news y p hg hn hcs hsrc h1;unfold Oper.wp;simp[execOp,x,resolve,invoke,builtin,hd,hs,i,Result.andThen];exact r _ _ (h _ (setRow_heap w g cur _ t _ hg) (fun k u=>setRow_other w g k _ u) (by simp[World.setRow]) rfl rfl rfl)
end ReMem
namespace ReMem
open Go Go.RowKit MatchMath
def SB (w:World) (g:Nat) (l:List Span):Prop:=w.heap[g]? =some (.cells (Az l).toArray 53 (0,0))
theorem SB.lies {w:World} {g:Nat} {l:List Span} (h:SB w g l) (d:l.length<=maxLen):Al w (.slice (some ⟨g,0,none⟩) l.length l.length) l:=
 ⟨_,_,rfl,⟨ql,d⟩,fun _=>⟨g,0,_,_,rfl,h,fun j x c=>by
  obtain⟨a,b⟩:=Jc l j x c;simp only[Nat.zero_add];exact⟨by simpa using a,by simpa using b⟩⟩⟩
theorem Tt:∀(l:List Span) (j:Nat) (x:Span),j<l.length->((Az l).set (j*2) (.int .i64 x.1)).set (j*2+1) (.int .i64 x.2)=Az (l.set j x)
 | [],j,x,h=>by simp at h
 | y::r,0,x,h=>rfl
 |y::r,j+1,x,h=>by
  have e:=Tt r j x (by simpa using h);rw[show (j+1)*2=j*2+1+1 from by omega];show _::_::((Az r).set (j*2) _).set (j*2+1) _=_;rw[e];rfl
theorem SB.set {w:World} {g:Nat} {l:List Span} (h:SB w g l) (j:Nat) (x:Span) (c:j<l.length):SB ((w.setCell ⟨g,j*2,none⟩ (.int .i64 x.1)).setCell ⟨g,j*2+1,none⟩ (.int .i64 x.2)) g (l.set j x):=by
 have a:(w.setCell ⟨g,j*2,none⟩ (.int .i64 x.1)).heap[g]? =some (.cells ((Az l).toArray.setIfInBounds (j*2) (.int .i64 x.1)) 53 (0,0)):=by
  rw[setCell_eq_setRow w g _ _ _ _ _ h];exact setRow_heap w g _ _ _ _ h
 have b:((w.setCell ⟨g,j*2,none⟩ (.int .i64 x.1)).setCell ⟨g,j*2+1,none⟩ (.int .i64 x.2)).heap[g]? =some (.cells (((Az l).toArray.setIfInBounds (j*2) (.int .i64 x.1)).setIfInBounds (j*2+1) (.int .i64 x.2)) 53 (0,0)):=by
  rw[setCell_eq_setRow _ g _ _ _ _ _ a];exact setRow_heap _ g _ _ _ _ a
 unfold SB;rw[b,<-Tt l j x c];simp
theorem SB.at {w:World} {g:Nat} {l:List Span} (h:SB w g l) {j:Nat} {x:Span} (c:l[j]? =some x):w.cell? ⟨g,j*2,none⟩=some (.int .i64 x.1)/\w.cell? ⟨g,j*2+1,none⟩=some (.int .i64 x.2):=by
 obtain⟨a,b⟩:=Jc l j x c;exact⟨by rw[qc h];simpa using a,by rw[qc h];simpa using b⟩
theorem SB.free {w:World} {g:Nat} {l:List Span} (h:SB w g l) (k:Nat):w.frozen? ⟨g,k,none⟩=false:=by
 unfold SB at h;unfold World.frozen?;rw[h];simp
theorem with_any (v:Value) (l:List Span) (g t A:Int) (w:World) (h:Al w v l) (hl:l.length<=4096) (hg:g<=4611686018427387904):
  Calls Tryz.prog 169 #[v,.int .i64 g,.agg #[.int .i64 t,.int .i64 A]] w fun r w'=>(∃v',r=.returned v'/\Al w' v' (Di l g (t,A)))/\qw w w':=by
 obtain⟨a,c,rfl⟩:=h.shape;have hc:=h.len.2;have H:=qh h;obtain⟨i0,a0,a4,a2,a5⟩:=info_parts Qr;have b0:(l.length:Int)<=4096:=by omega
 have S:=qh (qb w (.cells #[.int .i64 t,.int .i64 A] 53));have W:=heap_alloc_new w (.cells #[.int .i64 t,.int .i64 A] 53);have U:=qh W;have X:(Tryz.prog.info? 53).map (·.size)=some 2:=by rw[a0];simp[a2]
 have V:=qh X;have C:Hid ((w.alloc (.cells #[.int .i64 t,.int .i64 A] 53)).heap.size=w.heap.size+1):=by show _=_;simp
 clear h W X;by_cases hin:1<=g/\g<=(l.length:Int)
 ·obtain⟨G,rfl⟩:∃G:Nat,g=(G:Int)+1:=⟨(g-1).toNat,by omega⟩
  have b1:(G:Int)< (l.length:Int):=by omega
  have a3:Hid (G<l.length):=by show _<_;omega
  have J:Hid (Di l ((G:Int)+1) (t,A)=l.set G (t,A)):=by
   show _=_;unfold Di;rw[if_pos (by omega)]
   congr 1
  rw[J.o];have g1:(1:Int)<=(G:Int)+1:=by omega
  have g2:(G:Int)+1<=(l.length:Int):=by omega
  clear hin;go_enter func169,ntmps169;go_wp2_with (first
   | (at_make
      refine wpList_make_full _ rfl _ _ _ rfl (w.heap.size+1) 53 i0 _ 2 underlying40 a0 a4 a2 .i64 .i64 _ _ l.length rfl rfl rfl rfl (by rw[a5];omega) (by unfold maxLen;omega) (by rw[C.o];exact ql) ?_;intro w3 d L;have D:Hid (Below (w.heap.size+1) (w.alloc (.cells #[.int .i64 t,.int .i64 A] 53)) w3):=(Below.refl _ _).grown L (by rw[C.o];exact ql) (fun z hz=>by cases hz);obtain⟨i,m,n⟩:∃i,w3.heap[w.heap.size+1]? =some (.cells i 53 (0,0))/\i.size=l.length*2:=by
       rw[C.o]at d;rcases d.2 with ⟨e,_⟩ | ⟨g9,a6,i,e,hb,Y,a8,a7,n,a9⟩
       · cases e
       ·injection e with e1 e2 e3
        injection e1 with e1;injection e1 with e1;subst e1 e3;exact⟨i,Y,n⟩
      have I:=qh m;have K:Hid (0<l.length->∃ad,a=some ad/\∀j u,(Az l)[j]? =some u->w3.cell? (ad.add j)=some u):=fun h0=>by
       have Q:=H.o.stays (S.o.trans (D.o.mono (Nat.le_succ _)));obtain⟨x,hx⟩:∃x,l[0]? =some x:=⟨_,List.getElem?_eq_getElem h0⟩;obtain⟨b,off,e, -, -⟩:=Q.at hx;subst e;exact⟨_,rfl,Q.news⟩
      clear d L m)
   | (guard_target =~ wpList _ _ _ ({dst:=_,op:=Op.call {callee:=Callee.builtin Builtin.copy,args:=_,argTypes:=_},type:=_,pos:=_,after:=_,guard:=none}::_) _ _
      refine Ly rfl _ _ _ _ rfl 53 underlying40 2 V.o (w.heap.size+1) l.length l.length a c rfl rfl i 53 I.o (Az l) (Gj l) n K.o (Hu l) ?_;intro T M N a1 O R P;have B:Hid (SB T (w.heap.size+1) l):=M;have E:Hid (Below (w.heap.size+1) (w.alloc (.cells #[.int .i64 t,.int .i64 A] 53)) T):=D.o.trans ⟨O,R,P,by omega,fun k hk=>N k (by omega)⟩;have q:=(E.o.block w.heap.size (Nat.lt_succ_self _)).trans U.o;have c0:T.cell? ⟨w.heap.size,0,none⟩=some (.int .i64 t):=by rw[qc q];rfl
      have c1:T.cell? ⟨w.heap.size,1,none⟩=some (.int .i64 A):=by rw[qc q];rfl
      obtain⟨y,hy⟩:∃y,l[G]? =some y:=⟨_,List.getElem?_eq_getElem a3.o⟩;obtain⟨d0,d1⟩:=B.o.at hy;have z0:=B.o.free (G*2);have z1:=B.o.free (G*2+1);clear M N a1 O R P q hy))
  go_ret;have e:=(B.o.set G (t,A) a3.o).lies (by rw[List.length_set];unfold maxLen;omega);rw[List.length_set]at e;exact⟨⟨_,rfl,e⟩,S.o.trans (((E.o.setCell (p:=⟨_,_,none⟩) ql _).setCell (p:=⟨_,_,none⟩) ql _).mono (Nat.le_succ _))⟩
 ·have J:Hid (Di l g (t,A)=l):=by
   show _=_;unfold Di;by_cases h1:1<=g
   ·rw[if_pos h1]
    exact List.set_eq_of_length_le (by omega)
   · rw[if_neg h1]
  rw[J.o];by_cases h1:1<=g
  all_goals
   first
    | (have f1:¬g<=(l.length:Int):=by omega)
    | (have f1:¬(1:Int)<=g:=by omega)
   clear hin;go_enter func169,ntmps169;go_wp2_with (first
    | (at_make
       refine wpList_make_full _ rfl _ _ _ rfl (w.heap.size+1) 53 i0 _ 2 underlying40 a0 a4 a2 .i64 .i64 _ _ l.length rfl rfl rfl rfl (by rw[a5];omega) (by unfold maxLen;omega) (by rw[C.o];exact ql) ?_;intro w3 d L;have D:Hid (Below (w.heap.size+1) (w.alloc (.cells #[.int .i64 t,.int .i64 A] 53)) w3):=(Below.refl _ _).grown L (by rw[C.o];exact ql) (fun z hz=>by cases hz);obtain⟨i,m,n⟩:∃i,w3.heap[w.heap.size+1]? =some (.cells i 53 (0,0))/\i.size=l.length*2:=by
        rw[C.o]at d;rcases d.2 with ⟨e,_⟩ | ⟨g9,a6,i,e,hb,Y,a8,a7,n,a9⟩
        · cases e
        ·injection e with e1 e2 e3
         injection e1 with e1;injection e1 with e1;subst e1 e3;exact⟨i,Y,n⟩
       have I:=qh m;have K:Hid (0<l.length->∃ad,a=some ad/\∀j u,(Az l)[j]? =some u->w3.cell? (ad.add j)=some u):=fun h0=>by
        have Q:=H.o.stays (S.o.trans (D.o.mono (Nat.le_succ _)));obtain⟨x,hx⟩:∃x,l[0]? =some x:=⟨_,List.getElem?_eq_getElem h0⟩;obtain⟨b,off,e, -, -⟩:=Q.at hx;subst e;exact⟨_,rfl,Q.news⟩
       clear d L m)
    | (guard_target =~ wpList _ _ _ ({dst:=_,op:=Op.call {callee:=Callee.builtin Builtin.copy,args:=_,argTypes:=_},type:=_,pos:=_,after:=_,guard:=none}::_) _ _
       refine Ly rfl _ _ _ _ rfl 53 underlying40 2 V.o (w.heap.size+1) l.length l.length a c rfl rfl i 53 I.o (Az l) (Gj l) n K.o (Hu l) ?_;intro T M N a1 O R P;have B:Hid (SB T (w.heap.size+1) l):=M;have E:Hid (Below (w.heap.size+1) (w.alloc (.cells #[.int .i64 t,.int .i64 A] 53)) T):=D.o.trans ⟨O,R,P,by omega,fun k hk=>N k (by omega)⟩;have q:=(E.o.block w.heap.size (Nat.lt_succ_self _)).trans U.o;have c0:T.cell? ⟨w.heap.size,0,none⟩=some (.int .i64 t):=by rw[qc q];rfl
       have c1:T.cell? ⟨w.heap.size,1,none⟩=some (.int .i64 A):=by rw[qc q];rfl
       clear M N a1 O R P q))
   go_ret;exact⟨⟨_,rfl,B.o.lies (by unfold maxLen;omega)⟩,S.o.trans (E.o.mono (Nat.le_succ _))⟩
end ReMem
namespace ReMem
open Go Go.RowKit MatchMath
def OBx (w:World) (ob:Nat) (v:Value) (l:List Parse):Prop:=w.heap[ob]? =some (.cells #[v] 115)/\PRow w (ob+1) v l
theorem OBx.noOwn {w:World} {a:Nat} {v:Value} {l:List Parse} (h:OBx w a v l):∀b,v.ownBlock=some b->a<b:=fun b hb=>(h.2.lt b hb).1
theorem OBx.chg {C:Nat->Prop} {w d:World} {a:Nat} {v:Value} {l:List Parse} (h:OBx w a v l) (c:Chg C w d) (e:NoSp C w) (g:¬C a) (i:∀b,v.ownBlock=some b->¬C b):OBx d a v l:=
 ⟨(c.block a (qd h.1) g).trans h.1,h.2.chg c e i⟩
theorem OBx.stays {w b:World} {a:Nat} {v:Value} {l:List Parse} (h:OBx w a v l) (c:qw w b):OBx b a v l:=h.chg (Chg.of (C:=fun _=>False) c) (NoSp.none w) (fun h=>h) (fun _ _ h=>h)
theorem OBx.new (w:World):OBx (w.alloc (.cells #[.slice none 0 0] 115)) w.heap.size (.slice none 0 0) []:=⟨heap_alloc_new w _,PRow.nil _ _⟩
theorem OBx.noSp {w:World} {e:Nat} {v:Value} {l:List Parse} (h:OBx w e v l):NoSp (fun b=>b=e\/some b=v.ownBlock) w:=by
 intro b c fz d a;rcases d with rfl | d
 ·rw[h.1]at a
  injection a with a;injection a with _ h1 _;exact absurd h1 (by decide)
 · exact h.2.noSp b c fz d a
theorem OBx.cell {w:World} {a:Nat} {v:Value} {l:List Parse} (h:OBx w a v l):w.cell? ⟨a,0,none⟩=some v:=by rw[qc h.1];rfl
theorem OBx.free {w:World} {a:Nat} {v:Value} {l:List Parse} (h:OBx w a v l):w.frozen? ⟨a,0,none⟩=false:=by unfold World.frozen?;rw[h.1];simp
theorem set_one (w:World) (a:Nat) (v u:Value) (T:TypeId) (h:w.heap[a]? =some (.cells #[v] T)):(w.setCell ⟨a,0,none⟩ u).heap[a]? =some (.cells #[u] T):=by
 rw[setCell_eq_setRow w a 0 _ _ _ _ h,setRow_heap w a _ _ _ _ h];rfl
theorem OBx.put {w:World} {a:Nat} {v c:Value} {i:List Parse} (h:w.heap[a]? =some (.cells #[v] 115)) (g:PRow w (a+1) c i):OBx (w.setCell ⟨a,0,none⟩ c) a c i:=by
 refine⟨set_one w a v c _ h,g.chg (Chg.setCell w a 0 c) (fun b j fz e d=>?_) (fun b l e=>?_)⟩
 ·subst e
  rw[h]at d;injection d with d;injection d with _ h1 _;exact absurd h1 (by decide)
 ·have:=(g.lt b l).1
  omega
theorem Fx (c:Nat) (v R:Value) (l:List Parse) (p:Parse) (w:World) (h:OBx w c v l) (I:Al w R p.2) (V:l.length<=1099511627776):
  Calls Tryz.prog 165 #[.bool true,.agg #[.int .i64 (p.1:Int),R],.pointer (some ⟨c,0,none⟩)] w fun r w'=>r=.returned (.tuple #[])/\(∃v',OBx w' c v' (l++ [p]))/\Chg (fun b=>b=c\/some b=v.ownBlock) w w':=by
 obtain⟨S,hi,J,K,L⟩:=info_parts No;obtain⟨P,Q,rfl⟩:=I.shape;obtain⟨M,N,rfl⟩:=h.2.form;have i:=qb w (.cells #[.int .i64 (p.1:Int),.slice P p.2.length Q] 119);have y:=h.stays i;have H:=qh h;have x:=qh y;have C:=qh (I.stays i);have c0:=y.cell;obtain⟨U,u,q,t⟩:=y.2;have B:=qh q;have G:=qh u;have D:=qh t;have n1:l.length+1<=maxLen:=by unfold maxLen;omega
 have T:(l.length+1)*32<=140737488355328:=by omega
 have E:Hid (c+1<=w.heap.size+1):=by show _<=_;have:=(qd h.1);omega
 clear h I y q u t;go_enter func165,ntmps165;go_wp2_with (first
  | (at_builtin
     refine Bg _ rfl _ _ 115 rfl (c+1) 119 S (.agg #[.int .i64 0,.slice none 0 0]) 2 32 underlying115 hi J K L rfl (by decide) _ l.length (Dq l U) rfl B.o [.int .i64 (p.1:Int),.slice P p.2.length Q] rfl (by simp[Value.oneCell']) (w.heap.size+1) (by simp) rfl n1 T E.o ?_;intro v' O d a n;have j:=qh (PRow.more G.o D.o C.o d a x.o.2.noSp);have z:=qh a;have m:¬some c=(Value.slice M l.length N).ownBlock:=fun e=>by have:=x.o.noOwn c e.symm;omega
     have g:O.heap[c]? =some (.cells #[.slice M l.length N] 115):=(a.block c (qd x.o.1) m).trans x.o.1;have A:=qh g;have c5:O.cell? ⟨c,0,none⟩=some (.slice M l.length N):=by rw[qc g];rfl
     have Y:O.frozen? ⟨c,0,none⟩=false:=by unfold World.frozen?;rw[g];simp
     obtain⟨W,X,rfl⟩:=j.o.form;clear d a n g m))
 go_end0;exact⟨rfl,⟨_,OBx.put A.o (by have e:=j.o;simpa using e)⟩,((Chg.of i).trans z.o (fun k _ e=>.inr e)).trans (Chg.setCell _ _ _ _) (fun k _ e=>.inl e)⟩
theorem Ed (q:Addr) (e:Int) (a:Option Addr) (n c:Nat) (w:World):
  Calls Tryz.prog 165 #[.bool false,.agg #[.int .i64 e,.slice a n c],.pointer (some q)] w fun r w'=>r=.returned (.tuple #[])/\qw w w':=by
 go_enter func165,ntmps165;go_wp2;go_end0;exact⟨rfl,(Below.refl _ w).alloc ql _⟩
end ReMem
end Go.Proofs.YtjefcpjciogcjaaGreatDoor
