/- Lemmas for the walk of the law, in 4 parts. No condition beyond what each states. -/
import Derived.Test.YtjefcpjciogcjaaGreatDoorG14
import Derived.Test.YtjefcpjciogcjaaGreatDoorG15
import Derived.Test.YtjefcpjciogcjaaGreatDoorG10
namespace Go.Proofs.YtjefcpjciogcjaaGreatDoor
set_option maxRecDepth 100000
set_option linter.unusedVariables false
set_option maxHeartbeats 40000000
open List renaming setIfInBounds_toArray->yT,set_cons_zero->y9,set_cons_succ->yS
open Tryz
namespace ReMem
open Go Go.RowKit MatchMath
theorem parP4_any (s:ByteArray) (T:Bool) (k n:Nat) (hp:Fm s T k n) (e:Re) (i1:e.op=4) (v sv:Value) (i:Nat) (l:List Span) (mm:Nat) (w:World) (j5:size e<n+1) (e3:size e<=100) (f7:gok k e=true) (c9:Ag e) (hl:Lies w v e.args) (hs:Al w sv l) (h8:l.length=k) (i0:SpOk s.size l) (hi:i<=s.size) (hm:TBox w mm s T) (ht:Tabs w) (g2:s.size<=4096) (hk:k<=4096):
  Calls Tryz.prog 126 #[.pointer (some ⟨mm,0,none⟩),Ac v e,.int .i64 i,sv] w (PRes w ((tx s T).parses e i l)):=by
 obtain⟨o,p,lo,h,g,args⟩:=e;simp only[Re.op]at i1;subst i1;have m2:=qh c9;unfold gok at f7;simp only[Bool.and_eq_true]at f7;obtain⟨⟨i3,n2,j3⟩,h5⟩:=f7;have e2:∀t∈args,size t<n:=fun t ht=>by have:=Bo (e:=.mk 4 p lo h g args) ht;omega
 have n4:args.length<=100:=by have h1:=Ea args;rw[size]at e3;omega
 have m8:args.length<=9223372036854775807:=by omega
 have a5:Hid ((tx s T).parses (.mk 4 p lo h g args) i l=(tx s T).node 4 p lo h g (Ap (.mk 4 p lo h g args)) ((tx s T).parsesL args) i l):=by show _=_;rw[Text.parses]
 have b4:(tx s T).s.length=s.size:=Ce s;have a8:=qh (fun v L W (hb:qw w W) (h:PLies W v L) (hL:L.length<=1099511627776) (hg:GP s.size k L)=>Fg s.size k v L w.heap.size w W hb rfl ht h hL hg g2 hk);have HS:=qh hs;have HL:=qh hl;have g8:=qh i0;have g7:=qh h8;have m6:=qh g2;have m3:=qh hk;have HM:=qh hm;have j1:=qh ht;have i6:=qh h5;have j0:=qh e2;have g9:=qh hp;have j8:=Dh i3;obtain⟨va,vc,rfl⟩:=hl.shape;obtain⟨sa,sc,rfl⟩:=hs.shape;have j9:=hs.len.2;have n3:(i:Int)<=(s.size:Int):=by omega
 have n5:(s.size:Int)<=4096:=by omega
 unfold Ac;simp only[Re.op,Re.set,Re.lo,Re.hi,Re.group,Re.args]at*;obtain⟨R,hR⟩:∃R,(tx s T).parses (.mk 4 p lo h g args) i l=R:=⟨_,rfl⟩;rw[hR]at a5 ⊢;clear hR hs hl i0 i3 g2 h8 hk hm ht h5 e2 hp j5 e3 c9;have a2:Hid (R=(De ((tx s T).parsesL args) i l).bind (done s.size)):=by show _=_;rw[a5.o];unfold Text.node;simp[b4]
 obtain⟨AR,f2⟩:∃x,De ((tx s T).parsesL args) i l=x:=⟨_,rfl⟩;have i4:Hid ((De ((tx s T).parsesL args) i l).map (fun b=> []++b)=AR):=by show _=_;rw[<- f2];simp
 rw[f2]at a2;have b6:=qh (fun t m (hm:(tx s T).parses t i l=some m)=>Dd (tx s T) t i l m (by rw[b4];exact hi) (by rw[b4];exact g8.o) hm);rw[b4,g7.o]at b6;obtain⟨ta,tc,n8,e0,⟨m0,m1⟩,d9⟩:=HL.o.opened;cases e0
 have HO:=qh d9;clear d9 j3 f2;generalize hx0:Sets.Aa p 0=x0 at*;generalize hx1:Sets.Aa p 1=x1 at*;generalize hx2:Sets.Aa p 2=x2 at*;generalize hx3:Sets.Aa p 3=x3 at*;clear hx0 hx1 hx2 hx3;have P:=qh (PW.new w 4 x0 x1 x2 x3 lo h g (.slice va args.length vc) i (.slice sa l.length sc));go_enter func126,ntmps126
 go_upto_region 4 with fail
 generalize ((w.alloc (.cells #[.int .i64 4,.int .u64 x0,.int .u64 x1,.int .u64 x2,.int .u64 x3,.int .i64 lo,.int .i64 h,.int .i64 g,.slice va args.length vc] 28)).alloc (.cells #[.int .i64 (i:Int),.slice sa l.length sc] 119)).alloc (.cells #[.slice none 0 0] 115)=w3 at*;obtain⟨d0,d1,d2,d3,d4,d5,d6,d7,d8,j6⟩:=P.o.box;have h0:w3.cell? ⟨w.heap.size+1,0,none⟩=some (.int .i64 (i:Int)):=by rw[qc P.o.here];rfl
 have h1:w3.cell? ⟨w.heap.size+1,1,none⟩=some (.slice sa l.length sc):=by rw[qc P.o.here];rfl
 have m4:=qh (HS.o.stays P.o.bel);have i5:=qh P.o.bel;have m7:=qh P.o.sz;have i7:=qh P.o.out;have m5:Hid (w.heap.size+1+1+1<=w3.heap.size):=by show _<=_;have:=P.o.sz;omega
 go_wp2_with fail
 clear d0 d1 d2 d3 d4 d5 d6 d7 d8 h0 h1 j6
 go_loopw [177] (fun ix wr=>∃(j:Nat) (ov:Value) (y:List Parse),j<=args.length/\ix=.int .i64 j/\OBx wr (w.heap.size+1+1) ov y/\y.length<=j*4096/\Hid (GP s.size k y)/\Hid ((De ((tx s T).parsesL (args.drop j)) i l).map (fun b=>y++b)=AR)/\qw w wr) (fun ix _=>args.length-(intOf ix).toNat)
 case atStart=>exact⟨0,_,[],Nat.zero_le _,rfl,i7.o,Nat.zero_le _,GP.nil _ _,by rw[List.drop_zero];exact i4,i5.o⟩
 case round=>
  obtain⟨j,ov,y,hj,rfl,g1,b1,a1,g5,b5⟩:=hrel;have V:=qh g1;have D:=qh b5;have b7:=qh b1;by_cases hjt:j<args.length
  ·have j4:(j:Int)< (args.length:Int):=by omega
   have b2:=qh hjt;obtain⟨t,tv,b,off,ht,hv,e1,⟨k0,k1,k2,k3,k4,k5,k6,k7,k8⟩,f8,h4,f9⟩:=(HO.o.stays b5).at hjt;cases e1
   have J:Hid ((((tx s T).parses t i l).bind fun a=>(De ((tx s T).parsesL (args.drop (j+1))) i l).map fun b=>(y++a)++b)=AR):=by
    show _=_;rw[<- Se];have h1:=g5.out;rw[Ga ht,Text.parsesL]at h1;exact h1
   have a7:=qh (fun W (E:qw wr W)=>g9.o t tv (.slice sa l.length sc) i l mm W (j0.o t f9) (Bk i6.o f9) h4 (f8.stays E) (HS.o.stays (D.o.trans (E.mono D.o.size))) g7.o g8.o hi (HM.o.stays (D.o.trans (E.mono D.o.size))) (j1.o.stays (D.o.trans (E.mono D.o.size))));unfold Ac at a7;obtain⟨B,C,rfl⟩:=f8.shape;have a3:=qh (qb wr (.cells #[.int .i64 t.op,.int .u64 (Sets.Aa t.set 0:Nat),.int .u64 (Sets.Aa t.set 1:Nat),.int .u64 (Sets.Aa t.set 2:Nat),.int .u64 (Sets.Aa t.set 3:Nat),.int .i64 t.lo,.int .i64 t.hi,.int .i64 t.group,.slice B t.args.length C] 28));have N:=qh (heap_alloc_new wr (.cells #[.int .i64 t.op,.int .u64 (Sets.Aa t.set 0:Nat),.int .u64 (Sets.Aa t.set 1:Nat),.int .u64 (Sets.Aa t.set 2:Nat),.int .u64 (Sets.Aa t.set 3:Nat),.int .i64 t.lo,.int .i64 t.hi,.int .i64 t.group,.slice B t.args.length C] 28));have b9:Hid (y.length<=409600):=by show _<=_;omega
   clear ht hv f8 h4 f9 g1 b5 b1 hjt
   go_upto_region 28 with fail
   generalize wr.alloc (.cells #[.int .i64 t.op,.int .u64 (Sets.Aa t.set 0:Nat),.int .u64 (Sets.Aa t.set 1:Nat),.int .u64 (Sets.Aa t.set 2:Nat),.int .u64 (Sets.Aa t.set 3:Nat),.int .i64 t.lo,.int .i64 t.hi,.int .i64 t.group,.slice B t.args.length C] 28)=wq at*;have k0:wq.cell? ⟨wr.heap.size,0,none⟩=some (.int .i64 t.op):=by rw[qc N.o];rfl
   have k1:wq.cell? ⟨wr.heap.size,1,none⟩=some (.int .u64 (Sets.Aa t.set 0:Nat)):=by rw[qc N.o];rfl
   have k2:wq.cell? ⟨wr.heap.size,2,none⟩=some (.int .u64 (Sets.Aa t.set 1:Nat)):=by rw[qc N.o];rfl
   have k3:wq.cell? ⟨wr.heap.size,3,none⟩=some (.int .u64 (Sets.Aa t.set 2:Nat)):=by rw[qc N.o];rfl
   have k4:wq.cell? ⟨wr.heap.size,4,none⟩=some (.int .u64 (Sets.Aa t.set 3:Nat)):=by rw[qc N.o];rfl
   have k5:wq.cell? ⟨wr.heap.size,5,none⟩=some (.int .i64 t.lo):=by rw[qc N.o];rfl
   have k6:wq.cell? ⟨wr.heap.size,6,none⟩=some (.int .i64 t.hi):=by rw[qc N.o];rfl
   have k7:wq.cell? ⟨wr.heap.size,7,none⟩=some (.int .i64 t.group):=by rw[qc N.o];rfl
   have k8:wq.cell? ⟨wr.heap.size,8,none⟩=some (.slice B t.args.length C):=by rw[qc N.o];rfl
   have e8:=qh (V.o.stays a3.o);have o8:=e8.o.cell;have I:=qh (D.o.trans (a3.o.mono D.o.size));have a6:=qh (fun W (E:qw wq W)=>a7.o W (Ab a3.o E));have X:=qh (fun W (E:qw wq W)=>(And.intro (upc E k0) (And.intro (upc E k1) (And.intro (upc E k2) (And.intro (upc E k3) (And.intro (upc E k4) (And.intro (upc E k5) (And.intro (upc E k6) (And.intro (upc E k7) (upc E k8))))))))));have h3:=qh (fun W (E:qw wq W)=>(And.intro (upc E o8) (And.intro (upc E k0) (And.intro (upc E k1) (And.intro (upc E k2) (And.intro (upc E k3) (And.intro (upc E k4) (And.intro (upc E k5) (And.intro (upc E k6) (And.intro (upc E k7) (upc E k8)))))))))));clear a7;cases hf:(tx s T).parses t i l with
   |none=>
    rw[hf]at a6 J;have i9:Hid (R=none):=by show _=_;rw[a2.o,<-J.o];rfl
    clear hf;refine Code.wp_mono (Q:=fun e a G=>(e=Exit.panic [{v:=Value.iface 184 (.agg #[]),recovered:=false}]/\a.defers= [])/\qw wq G) ?_ ?_
    ·rintro e a G ⟨⟨rfl,hd⟩,hb⟩
     simp only[Exit.inBlock,Exit.then];refine⟨hd,?_⟩;rw[i9.o];exact⟨rfl,I.o.trans (hb.mono I.o.size)⟩
    refine wp_region_held_drew (S:=(fun G=>G.cell? ⟨w.heap.size+1+1,0,none⟩=some ov/\xS G wr.heap.size t B C)) (by kernel_rfl) (h3.o _ ((Below.refl _ wq).drew)) (fun r=>?_);refine wpAnyH_take (i:=0) (v:=?_) rfl (by kernel_rfl) (by kernel_rfl) (by kernel_rfl) (fun _ _ _ h=>h) (Or.inl ⟨by rfl,?_⟩) (by assumption) ?_;rotate_left
    ·intro w z
     try dsimp only at z
     go_simp;try with_reducible rfl
    try simp only[Act.put,yT,y9,yS]
    refine wpAnyH_take (i:=1) (v:=?_) rfl (by kernel_rfl) (by kernel_rfl) (by kernel_rfl) (fun _ _ _ h=>h) (Or.inl ⟨by rfl,?_⟩) (by assumption) ?_;rotate_left
    ·intro w z
     try dsimp only at z
     go_simp;try with_reducible rfl
    try simp only[Act.put,yT,y9,yS]
    refine wpAnyH_take (i:=2) (v:=?_) rfl (by kernel_rfl) (by kernel_rfl) (by kernel_rfl) (fun _ _ _ h=>h) (Or.inl ⟨by rfl,?_⟩) (by assumption) ?_;rotate_left
    ·intro w z
     try dsimp only at z
     go_simp;try with_reducible rfl
    try simp only[Act.put,yT,y9,yS]
    refine wpAnyH_take (i:=3) (v:=?_) rfl (by kernel_rfl) (by kernel_rfl) (by kernel_rfl) (fun _ _ _ h=>h) (Or.inl ⟨by rfl,?_⟩) (by assumption) ?_;rotate_left
    ·intro w z
     try dsimp only at z
     go_simp;try with_reducible rfl
    try simp only[Act.put,yT,y9,yS]
    refine wpAnyH_take (i:=4) (v:=?_) rfl (by kernel_rfl) (by kernel_rfl) (by kernel_rfl) (fun _ _ _ h=>h) (Or.inl ⟨by rfl,?_⟩) (by assumption) ?_;rotate_left
    ·intro w z
     try dsimp only at z
     go_simp;try with_reducible rfl
    try simp only[Act.put,yT,y9,yS]
    refine wpAnyH_ready (rs:= [5]) (by kernel_rfl) (by simp) ?_;refine AllReadyH.cons rfl (fun K hK=>?_) AllReadyH.nil;go_simp;refine (a6.o _ (Below.refl _ wq).drew).mono ?_;rintro e U ⟨h7,j2⟩;obtain rfl:e=.panicked [{v:=Value.iface 184 (.agg #[]),recovered:=false}]:=h7;exact⟨rfl,Ab ((Below.refl _ wq).drew) j2⟩
   |some m=>
    rw[hf]at a6 J;rw[Option.bind_some]at J;have b3:=qh (Ej _ _ _ _ _ hf);have g6:=qh (POk.gp (b6.o t m hf));clear hf;have q:Hid (∀k,k<=w.heap.size+1+1\/wr.heap.size<=k->¬some k=ov.ownBlock):=fun k hk e=>by
     have h1:=V.o.2.lt k e.symm;omega
    have j7:=(qd V.o.1);refine wp_region_held_drew (S:=(fun G:World=>xS G wr.heap.size t B C)) (by kernel_rfl) (X.o _ ((Below.refl _ wq).drew)) (fun r=>?_);refine wpAnyH_take (i:=1) (v:=?_) rfl (by kernel_rfl) (by kernel_rfl) (by kernel_rfl) (fun _ _ _ h=>h) (Or.inl ⟨by rfl,?_⟩) (by assumption) ?_;rotate_left
    ·intro w z
     try dsimp only at z
     go_simp;try with_reducible rfl
    try simp only[Act.put,yT,y9,yS]
    refine wpAnyH_take (i:=2) (v:=?_) rfl (by kernel_rfl) (by kernel_rfl) (by kernel_rfl) (fun _ _ _ h=>h) (Or.inl ⟨by rfl,?_⟩) (by assumption) ?_;rotate_left
    ·intro w z
     try dsimp only at z
     go_simp;try with_reducible rfl
    try simp only[Act.put,yT,y9,yS]
    refine wpAnyH_take (i:=3) (v:=?_) rfl (by kernel_rfl) (by kernel_rfl) (by kernel_rfl) (fun _ _ _ h=>h) (Or.inl ⟨by rfl,?_⟩) (by assumption) ?_;rotate_left
    ·intro w z
     try dsimp only at z
     go_simp;try with_reducible rfl
    try simp only[Act.put,yT,y9,yS]
    refine wpAnyH_take (i:=4) (v:=?_) rfl (by kernel_rfl) (by kernel_rfl) (by kernel_rfl) (fun _ _ _ h=>h) (Or.inl ⟨by rfl,?_⟩) (by assumption) ?_;rotate_left
    ·intro w z
     try dsimp only at z
     go_simp;try with_reducible rfl
    try simp only[Act.put,yT,y9,yS]
    refine wpAnyH_ready (rs:= [0,5]) (by kernel_rfl) (by simp) ?_;refine AllReadyH.cons rfl (fun K hK=>?_) (AllReadyH.cons rfl (fun K hK=>?_) AllReadyH.nil)
    ·go_simp
     refine hK.out _ _ (X.o _ ((Below.refl _ wq).drew)) (fun r=>?_);try simp only[Act.put,yT,y9,yS]
     refine wpAnyH_ready (rs:= [5]) (by kernel_rfl) (by simp) ?_;refine AllReadyH.cons rfl (fun K2 f3=>?_) AllReadyH.nil;go_simp;refine (a6.o _ (Below.refl _ wq).drew).mono ?_;rintro e6 w6 ⟨h6,b0⟩;obtain⟨mv,rfl,Y⟩:=h6;have A:Hid (qw wq w6):=Ab ((Below.refl _ wq).drew) b0;have e5:=qh Y.lies;have M:=qh (e8.o.stays A.o);have o6:=M.o.cell;obtain⟨ma,mc,rfl⟩:=Y.form;clear Y b0;refine f3.out _ _ (X.o _ A.o) (fun r=>?_);try simp only[Act.put,yT,y9,yS]
     refine wpAnyH_ready (rs:= [6]) (by kernel_rfl) (by simp) ?_;refine AllReadyH.cons rfl (fun K3 f4=>?_) AllReadyH.nil;refine Nc _ (by rfl) _ _ (by rfl) (w.heap.size+1+1+1) ov y (by rfl) M.o.2 (.slice ma m.length mc) m (by rfl) e5.o (by have:=b9.o;have:=b3.o;omega) (by have:=A.o.size;have:=a3.o.size;omega) ?_;intro v7 U a0 d g0;obtain⟨g3,g4,rfl⟩:∃a c,v7=.slice a (y.length+m.length) c:=by have:=a0.form;simpa using this
     have f0:=qh a0;have a4:=qh d;have O:U.heap[w.heap.size+1+1]? =some (.cells #[ov] 115):=(d.block (w.heap.size+1+1) (qd M.o.1) (q.o _ (.inl ql))).trans M.o.1;have e7:=qh O;have o7:U.cell? ⟨w.heap.size+1+1,0,none⟩=some ov:=by rw[qc O];rfl
     have z7:U.frozen? ⟨w.heap.size+1+1,0,none⟩=false:=by unfold World.frozen?;rw[O];simp
     have a9:Hid ((fun G:World=>xS G wr.heap.size t B C) U):=by
        show (fun G:World=>xS G wr.heap.size t B C) U;have u:=X.o _ A.o;exact⟨d.cell (u.1) (q.o _ (.inr ql)),d.cell (u.2.1) (q.o _ (.inr ql)),d.cell (u.2.2.1) (q.o _ (.inr ql)),d.cell (u.2.2.2.1) (q.o _ (.inr ql)),d.cell (u.2.2.2.2.1) (q.o _ (.inr ql)),d.cell (u.2.2.2.2.2.1) (q.o _ (.inr ql)),d.cell (u.2.2.2.2.2.2.1) (q.o _ (.inr ql)),d.cell (u.2.2.2.2.2.2.2.1) (q.o _ (.inr ql)),d.cell (u.2.2.2.2.2.2.2.2) (q.o _ (.inr ql))⟩
     have f1:Hid ((fun G:World=>xS G wr.heap.size t B C) (U.setCell ⟨w.heap.size+1+1,0,none⟩ (.slice g3 (y.length+m.length) g4))):=by
        show (fun G:World=>xS G wr.heap.size t B C) _;have u:=a9.o;exact⟨(Ad (by first | (simp;done) | (simp;omega))).trans (u.1),(Ad (by first | (simp;done) | (simp;omega))).trans (u.2.1),(Ad (by first | (simp;done) | (simp;omega))).trans (u.2.2.1),(Ad (by first | (simp;done) | (simp;omega))).trans (u.2.2.2.1),(Ad (by first | (simp;done) | (simp;omega))).trans (u.2.2.2.2.1),(Ad (by first | (simp;done) | (simp;omega))).trans (u.2.2.2.2.2.1),(Ad (by first | (simp;done) | (simp;omega))).trans (u.2.2.2.2.2.2.1),(Ad (by first | (simp;done) | (simp;omega))).trans (u.2.2.2.2.2.2.2.1),(Ad (by first | (simp;done) | (simp;omega))).trans (u.2.2.2.2.2.2.2.2)⟩
     clear a0 d O g0;refine f4.out _ _ a9.o (fun r=>?_);try simp only[Act.put,yT,y9,yS]
     refine wpAnyH_ready (rs:= [7]) (by kernel_rfl) (by simp) ?_;refine AllReadyH.cons rfl (fun K4 f5=>?_) AllReadyH.nil;go_simp;refine f5.out _ _ f1.o (fun r=>?_);try simp only[Act.put,yT,y9,yS]
     refine wpAnyH_done (by kernel_rfl) ?_ _;go_wp2_with fail
     go_roundw
     case rel=>
        refine⟨j+1,_,y++m,by have:=b2.o;omega,by go_num,OBx.put e7.o f0.o,by rw[List.length_append];have:=b7.o;have:=b3.o;omega,a1.append g6.o,J,((I.o.trans (A.o.mono I.o.size)).trans (a4.o.below (Nat.le_trans I.o.size A.o.size) (fun k hk e=>q.o k (.inl (by omega)) e))).trans ((Chg.setCell U (w.heap.size+1+1) 0 _).below (Nat.le_trans I.o.size (Nat.le_trans A.o.size a4.o.size)) (fun k hk e=>by omega))⟩
     case measure=>have:=b2.o;simp[intOf];omega
    ·go_simp
     refine (a6.o _ (Below.refl _ wq).drew).mono ?_;rintro e6 w6 ⟨h6,b0⟩;obtain⟨mv,rfl,Y⟩:=h6;have A:Hid (qw wq w6):=Ab ((Below.refl _ wq).drew) b0;have e5:=qh Y.lies;have M:=qh (e8.o.stays A.o);have o6:=M.o.cell;obtain⟨ma,mc,rfl⟩:=Y.form;clear Y b0;refine hK.out _ _ (X.o _ A.o) (fun r=>?_);try simp only[Act.put,yT,y9,yS]
     refine wpAnyH_ready (rs:= [0]) (by kernel_rfl) (by simp) ?_;refine AllReadyH.cons rfl (fun K2 f3=>?_) AllReadyH.nil;go_simp;refine f3.out _ _ (X.o _ A.o) (fun r=>?_);try simp only[Act.put,yT,y9,yS]
     refine wpAnyH_ready (rs:= [6]) (by kernel_rfl) (by simp) ?_;refine AllReadyH.cons rfl (fun K3 f4=>?_) AllReadyH.nil;refine Nc _ (by rfl) _ _ (by rfl) (w.heap.size+1+1+1) ov y (by rfl) M.o.2 (.slice ma m.length mc) m (by rfl) e5.o (by have:=b9.o;have:=b3.o;omega) (by have:=A.o.size;have:=a3.o.size;omega) ?_;intro v7 U a0 d g0;obtain⟨g3,g4,rfl⟩:∃a c,v7=.slice a (y.length+m.length) c:=by have:=a0.form;simpa using this
     have f0:=qh a0;have a4:=qh d;have O:U.heap[w.heap.size+1+1]? =some (.cells #[ov] 115):=(d.block (w.heap.size+1+1) (qd M.o.1) (q.o _ (.inl ql))).trans M.o.1;have e7:=qh O;have o7:U.cell? ⟨w.heap.size+1+1,0,none⟩=some ov:=by rw[qc O];rfl
     have z7:U.frozen? ⟨w.heap.size+1+1,0,none⟩=false:=by unfold World.frozen?;rw[O];simp
     have a9:Hid ((fun G:World=>xS G wr.heap.size t B C) U):=by
        show (fun G:World=>xS G wr.heap.size t B C) U;have u:=X.o _ A.o;exact⟨d.cell (u.1) (q.o _ (.inr ql)),d.cell (u.2.1) (q.o _ (.inr ql)),d.cell (u.2.2.1) (q.o _ (.inr ql)),d.cell (u.2.2.2.1) (q.o _ (.inr ql)),d.cell (u.2.2.2.2.1) (q.o _ (.inr ql)),d.cell (u.2.2.2.2.2.1) (q.o _ (.inr ql)),d.cell (u.2.2.2.2.2.2.1) (q.o _ (.inr ql)),d.cell (u.2.2.2.2.2.2.2.1) (q.o _ (.inr ql)),d.cell (u.2.2.2.2.2.2.2.2) (q.o _ (.inr ql))⟩
     have f1:Hid ((fun G:World=>xS G wr.heap.size t B C) (U.setCell ⟨w.heap.size+1+1,0,none⟩ (.slice g3 (y.length+m.length) g4))):=by
        show (fun G:World=>xS G wr.heap.size t B C) _;have u:=a9.o;exact⟨(Ad (by first | (simp;done) | (simp;omega))).trans (u.1),(Ad (by first | (simp;done) | (simp;omega))).trans (u.2.1),(Ad (by first | (simp;done) | (simp;omega))).trans (u.2.2.1),(Ad (by first | (simp;done) | (simp;omega))).trans (u.2.2.2.1),(Ad (by first | (simp;done) | (simp;omega))).trans (u.2.2.2.2.1),(Ad (by first | (simp;done) | (simp;omega))).trans (u.2.2.2.2.2.1),(Ad (by first | (simp;done) | (simp;omega))).trans (u.2.2.2.2.2.2.1),(Ad (by first | (simp;done) | (simp;omega))).trans (u.2.2.2.2.2.2.2.1),(Ad (by first | (simp;done) | (simp;omega))).trans (u.2.2.2.2.2.2.2.2)⟩
     clear a0 d O g0;refine f4.out _ _ a9.o (fun r=>?_);try simp only[Act.put,yT,y9,yS]
     refine wpAnyH_ready (rs:= [7]) (by kernel_rfl) (by simp) ?_;refine AllReadyH.cons rfl (fun K4 f5=>?_) AllReadyH.nil;go_simp;refine f5.out _ _ f1.o (fun r=>?_);try simp only[Act.put,yT,y9,yS]
     refine wpAnyH_done (by kernel_rfl) ?_ _;go_wp2_with fail
     go_roundw
     case rel=>
        refine⟨j+1,_,y++m,by have:=b2.o;omega,by go_num,OBx.put e7.o f0.o,by rw[List.length_append];have:=b7.o;have:=b3.o;omega,a1.append g6.o,J,((I.o.trans (A.o.mono I.o.size)).trans (a4.o.below (Nat.le_trans I.o.size A.o.size) (fun k hk e=>q.o k (.inl (by omega)) e))).trans ((Chg.setCell U (w.heap.size+1+1) 0 _).below (Nat.le_trans I.o.size (Nat.le_trans A.o.size a4.o.size)) (fun k hk e=>by omega))⟩
     case measure=>have:=b2.o;simp[intOf];omega
  ·have j4:¬(j:Int)< (args.length:Int):=by omega
   have h2:Hid (R=done s.size y):=by
    show _=_;have h1:=g5.out;rw[show j=args.length by omega,List.drop_length,Text.parsesL]at h1;rw[a2.o,<-h1];simp[De]
   have b8:Hid (y.length<=409600):=by show _<=_;omega
   obtain⟨n6,n7,rfl⟩:=V.o.2.form;have o9:=V.o.cell;clear g1 b5 b1 a2;cases hd:R with
   |none=>
    skip
    go_wp2_with (first
    | (go_at_call 172
       (refine (a8.o _ y _ D.o V.o.2.lies (by have:=b8.o;omega) a1.out).mono ?_);rintro e9 w9 ⟨h9,f6⟩;rw[<- h2.o,hd]at h9;obtain rfl:e9=.panicked [{v:=Value.iface 184 (.agg #[]),recovered:=false}]:=h9;have e4:=qh (Ab D.o f6)))
    refine⟨rfl,?_⟩;try rw[hd]
    exact⟨rfl,e4.o⟩
   |some m9=>
    skip
    go_wp2_with (first
    | (go_at_call 172
       (refine (a8.o _ y _ D.o V.o.2.lies (by have:=b8.o;omega) a1.out).mono ?_);rintro e9 w9 ⟨h9,f6⟩;rw[<- h2.o,hd]at h9;obtain⟨v9,rfl,i2⟩:=h9;have i8:=qh (i2.mono (show w.heap.size<=_ from (D.o).size));have e4:=qh (Ab D.o f6);clear i2))
    go_ret;try rw[hd]
    exact⟨⟨_,rfl,i8.o⟩,e4.o⟩
end ReMem
namespace ReMem
open Go Go.RowKit MatchMath
theorem parP5_any (s:ByteArray) (z:Bool) (k n:Nat) (hp:Fm s z k n) (e:Re) (U:e.op=5) (v sv:Value) (i:Nat) (l:List Span) (mm:Nat) (w:World) (b2:size e<n+1) (J:size e<=100) (K:gok k e=true) (I:Ag e) (hl:Lies w v e.args) (hs:Al w sv l) (S:l.length=k) (T:SpOk s.size l) (hi:i<=s.size) (X:TBox w mm s z) (Y:Tabs w) (N:s.size<=4096) (V:k<=4096):
  Calls Tryz.prog 126 #[.pointer (some ⟨mm,0,none⟩),Ac v e,.int .i64 i,sv] w (PRes w ((tx s z).parses e i l)):=by
 have u:=qh (fun (t:Re) (W:World) (harg:e.args= [t]) (hst:size t<n) (hW:qw w W)=>repeated_any s z k n hp e t harg U hst J K I mm v sv i l W (hl.stays hW) (Y.stays hW) (X.stays hW) (hs.stays hW) S T hi N V);try unfold Ac at u
 obtain⟨o,p,lo,h,g,args⟩:=e;simp only[Re.op]at U;subst U;have b7:=qh I;unfold gok at K;simp only[Bool.and_eq_true]at K;obtain⟨⟨a5,e2,e3⟩,a1⟩:=K;have O:∀t∈args,size t<n:=fun t Y=>by have:=Bo (e:=.mk 5 p lo h g args) Y;omega
 have e6:args.length<=100:=by have A:=Ea args;rw[size]at J;omega
 have e1:args.length<=9223372036854775807:=by omega
 have q:Hid ((tx s z).parses (.mk 5 p lo h g args) i l=(tx s z).node 5 p lo h g (Ap (.mk 5 p lo h g args)) ((tx s z).parsesL args) i l):=by show _=_;rw[Text.parses]
 have M:(tx s z).s.length=s.size:=Ce s;have G:=qh (fun v L W (hb:qw w W) (h:PLies W v L) (hL:L.length<=1099511627776) (hg:GP s.size k L)=>Fg s.size k v L w.heap.size w W hb rfl Y h hL hg N V);have HS:=qh hs;have HL:=qh hl;have a8:=qh T;have a7:=qh S;have d9:=qh N;have b9:=qh V;have HM:=qh X;have e0:=qh Y;have b8:=qh a1;have b1:=qh O;have b5:=qh hp;have a3:=Dh a5;obtain⟨va,vc,rfl⟩:=hl.shape;obtain⟨sa,sc,rfl⟩:=hs.shape;have b6:=hs.len.2;have e4:(i:Int)<=(s.size:Int):=by omega
 have e7:(s.size:Int)<=4096:=by omega
 unfold Ac;simp only[Re.op,Re.set,Re.lo,Re.hi,Re.group,Re.args]at*;obtain⟨R,hR⟩:∃R,(tx s z).parses (.mk 5 p lo h g args) i l=R:=⟨_,rfl⟩;rw[hR]at q ⊢;clear hR hs hl T a5 N S V X Y a1 O hp b2 J I;obtain⟨t,rfl⟩:∃t,args= [t]:=by
  rcases a3 with ⟨A | A | A | A | A, -⟩ | A | A | ⟨-,A⟩ | ⟨A, -⟩;all_goals first | exact A | cases A
 obtain⟨gs,a2⟩:∃x,Ap (.mk 5 p lo h g [t])=x:=⟨_,rfl⟩;rw[a2]at q u;clear a2;have C:=qh (fun W (hW:qw w W)=>u.o t W rfl (b1.o t (by simp)) hW);have E:Hid (R=(Fu ((tx s z).parses t) (clear gs) lo h i l).bind (done s.size)):=by show _=_;rw[q.o];unfold Text.node;simp[Pf,M]
 have D:=qh (fun m (X:Fu ((tx s z).parses t) (clear gs) lo h i l=some m)=>And.intro (POk.gp (repAll_ok (Dd (tx s z) t) gs lo h i l m (by rw[M];exact hi) (by rw[M];exact a8.o) X)) (repAll_len X));rw[M,a7.o]at D;simp only[List.length_singleton]at*;clear u;generalize hx0:Sets.Aa p 0=x0 at*;generalize hx1:Sets.Aa p 1=x1 at*;generalize hx2:Sets.Aa p 2=x2 at*;generalize hx3:Sets.Aa p 3=x3 at*;clear hx0 hx1 hx2 hx3;have a:=qh (PW.new w 5 x0 x1 x2 x3 lo h g (.slice va 1 vc) i (.slice sa l.length sc));go_enter func126,ntmps126
 go_upto_region 4 with fail
 generalize ((w.alloc (.cells #[.int .i64 5,.int .u64 x0,.int .u64 x1,.int .u64 x2,.int .u64 x3,.int .i64 lo,.int .i64 h,.int .i64 g,.slice va 1 vc] 28)).alloc (.cells #[.int .i64 (i:Int),.slice sa l.length sc] 119)).alloc (.cells #[.slice none 0 0] 115)=w3 at*;obtain⟨d0,d1,d2,d3,d4,d5,d6,d7,d8,e8⟩:=a.o.box;have h0:w3.cell? ⟨w.heap.size+1,0,none⟩=some (.int .i64 (i:Int)):=by rw[qc a.o.here];rfl
 have A:w3.cell? ⟨w.heap.size+1,1,none⟩=some (.slice sa l.length sc):=by rw[qc a.o.here];rfl
 have c9:=qh (HS.o.stays a.o.bel);have b:=qh (C.o w3 a.o.bel);have z0:=a.o.out.free;clear C;cases hr:Fu ((tx s z).parses t) (clear gs) lo h i l with
 |none=>
  have b0:Hid (R=none):=by show _=_;rw[E.o,hr];rfl
  rw[hr]at b;clear hr;go_wp2_with (first
  | (go_at_call 171
     (refine b.o.mono ?_);rintro e5 w5 ⟨h5,c⟩;obtain rfl:e5=.panicked [{v:=Value.iface 184 (.agg #[]),recovered:=false}]:=h5;have a6:=qh (Ab a.o.bel c)))
  refine⟨rfl,?_⟩;rw[b0.o];exact⟨rfl,a6.o⟩
 |some m=>
  have a0:Hid (R=done s.size m):=by show _=_;rw[E.o,hr];rfl
  have d:=qh (D.o m hr);rw[hr]at b;clear hr D E;cases hd:R with
  |none=>
   go_wp2_with (first
   | (go_at_call 171
      (refine b.o.mono ?_);rintro e5 w5 ⟨h5,c⟩;obtain⟨v5,rfl,r⟩:=h5;have j:=a.o.out.stays c;have z5:=j.free;have c5:=j.cell;have B:=qh (OBx.put j.1 (r.mono (by have:=a.o.sz;omega)));have y:=qh ((Ab a.o.bel c).trans ((Chg.setCell w5 (w.heap.size+1+1) 0 v5).below (Nat.le_trans a.o.bel.size c.size) (fun k V e=>by omega)));have o6:=B.o.cell;obtain⟨b3,b4,rfl⟩:=r.form;clear r c j))
   go_wp2_with (first
   | (go_at_call 172
      (refine (G.o _ m _ y.o B.o.2.lies (Nat.le_trans d.o.2 (by omega)) d.o.1).mono ?_);rintro e9 w9 ⟨h9,Q⟩;rw[<- a0.o,hd]at h9;obtain rfl:e9=.panicked [{v:=Value.iface 184 (.agg #[]),recovered:=false}]:=h9;have P:=qh (Ab y.o Q)))
   refine⟨rfl,?_⟩;try rw[hd]
   exact⟨rfl,P.o⟩
  |some m9=>
   go_wp2_with (first
   | (go_at_call 171
      (refine b.o.mono ?_);rintro e5 w5 ⟨h5,c⟩;obtain⟨v5,rfl,r⟩:=h5;have j:=a.o.out.stays c;have z5:=j.free;have c5:=j.cell;have B:=qh (OBx.put j.1 (r.mono (by have:=a.o.sz;omega)));have y:=qh ((Ab a.o.bel c).trans ((Chg.setCell w5 (w.heap.size+1+1) 0 v5).below (Nat.le_trans a.o.bel.size c.size) (fun k V e=>by omega)));have o6:=B.o.cell;obtain⟨b3,b4,rfl⟩:=r.form;clear r c j))
   go_wp2_with (first
   | (go_at_call 172
      (refine (G.o _ m _ y.o B.o.2.lies (Nat.le_trans d.o.2 (by omega)) d.o.1).mono ?_);rintro e9 w9 ⟨h9,Q⟩;rw[<- a0.o,hd]at h9;obtain⟨v9,rfl,a4⟩:=h9;have a9:=qh (a4.mono (show w.heap.size<=_ from (y.o).size));have P:=qh (Ab y.o Q);clear a4))
   go_ret;try rw[hd]
   exact⟨⟨_,rfl,a9.o⟩,P.o⟩
end ReMem
namespace ReMem
open Go Go.RowKit MatchMath
theorem addTrueN_any (c:Nat) (v S:Value) (l:List Parse) (p:Parse) (w:World) (h:OBx w c v l) (L:Al w S p.2) (W:l.length<=1099511627776):
  Calls Tryz.prog 165 #[.bool true,.agg #[.int .i64 (p.1:Int),S],.pointer (some ⟨c,0,none⟩)] w fun r w'=>r=.returned (.tuple #[])/\(∃v',OBx w' c v' (l++ [p])/\Near w.heap.size v v')/\Chg (fun b=>b=c\/some b=v.ownBlock) w w':=by
 obtain⟨T,hi,M,N,O⟩:=info_parts No;obtain⟨Q,R,rfl⟩:=L.shape;obtain⟨z,A,rfl⟩:=h.2.form;have j:=qb w (.cells #[.int .i64 (p.1:Int),.slice Q p.2.length R] 119);have y:=h.stays j;have H:=qh h;have x:=qh y;have G:=qh (L.stays j);have c0:=y.cell;obtain⟨V,u,q,t⟩:=y.2;have E:=qh q;have K:=qh u;have I:=qh t;have n1:l.length+1<=maxLen:=by unfold maxLen;omega
 have U:(l.length+1)*32<=140737488355328:=by omega
 have J:Hid (c+1<=w.heap.size+1):=by show _<=_;have:=(qd h.1);omega
 clear h L y q u t;go_enter func165,ntmps165;go_wp2_with (first
  | (at_builtin
     refine Bg _ rfl _ _ 115 rfl (c+1) 119 T (.agg #[.int .i64 0,.slice none 0 0]) 2 32 underlying115 hi M N O rfl (by decide) _ l.length (Dq l V) rfl E.o [.int .i64 (p.1:Int),.slice Q p.2.length R] rfl (by simp[Value.oneCell']) (w.heap.size+1) (by simp) rfl n1 U J.o ?_;intro v' P d a i;have m:=qh (PRow.more K.o I.o G.o d a x.o.2.noSp);have B:=qh a;have n:¬some c=(Value.slice z l.length A).ownBlock:=fun e=>by have:=x.o.noOwn c e.symm;omega
     have g:P.heap[c]? =some (.cells #[.slice z l.length A] 115):=(a.block c (qd x.o.1) n).trans x.o.1;have D:=qh g;have c5:P.cell? ⟨c,0,none⟩=some (.slice z l.length A):=by rw[qc g];rfl
     have z5:P.frozen? ⟨c,0,none⟩=false:=by unfold World.frozen?;rw[g];simp
     have C:Hid (Near (w.heap.size+1+1) (.slice z l.length A) v'):=i;obtain⟨X,Y,rfl⟩:=m.o.form;clear d a i g n))
 go_end0;exact⟨rfl,⟨_,OBx.put D.o (by have e:=m.o;simpa using e),by have e:=C.o.mono (show w.heap.size<=w.heap.size+1+1 by omega);simpa using e⟩,((Chg.of j).trans B.o (fun k _ e=>.inr e)).trans (Chg.setCell _ _ _ _) (fun k _ e=>.inl e)⟩
end ReMem
namespace ReMem
open Go Go.RowKit MatchMath
theorem parP6_any (s:ByteArray) (E:Bool) (k n:Nat) (hp:Fm s E k n) (e:Re) (i0:e.op=6) (v sv:Value) (i:Nat) (l:List Span) (mm:Nat) (w:World) (n7:size e<n+1) (b8:size e<=100) (f0:gok k e=true) (b6:Ag e) (hl:Lies w v e.args) (hs:Al w sv l) (h4:l.length=k) (h8:SpOk s.size l) (hi:i<=s.size) (hm:TBox w mm s E) (ht:Tabs w) (f3:s.size<=4096) (hk:k<=4096):
  Calls Tryz.prog 126 #[.pointer (some ⟨mm,0,none⟩),Ac v e,.int .i64 i,sv] w (PRes w ((tx s E).parses e i l)):=by
 obtain⟨o,p,lo,h,g,args⟩:=e;simp only[Re.op]at i0;subst i0;have o3:=qh b6;unfold gok at f0;simp only[Bool.and_eq_true]at f0;obtain⟨⟨i3,p1,g9⟩,g8⟩:=f0;have b7:∀t∈args,size t<n:=fun t ht=>by have:=Bo (e:=.mk 6 p lo h g args) ht;omega
 have p3:args.length<=100:=by have z:=Ea args;rw[size]at b8;omega
 have o8:args.length<=9223372036854775807:=by omega
 have M:Hid ((tx s E).parses (.mk 6 p lo h g args) i l=(tx s E).node 6 p lo h g (Ap (.mk 6 p lo h g args)) ((tx s E).parsesL args) i l):=by show _=_;rw[Text.parses]
 have b1:(tx s E).s.length=s.size:=Ce s;have Q:=qh (fun v L W (r:qw w W) (h:PLies W v L) (hL:L.length<=1099511627776) (hg:GP s.size k L)=>Fg s.size k v L w.heap.size w W r rfl ht h hL hg f3 hk);have HS:=qh hs;have HL:=qh hl;have g1:=qh h8;have f8:=qh h4;have o5:=qh f3;have f7:=qh hk;have HM:=qh hm;have m2:=qh ht;have i8:=qh g8;have m1:=qh b7;have g2:=qh hp;have i1:=Dh i3;obtain⟨va,vc,rfl⟩:=hl.shape;obtain⟨sa,sc,rfl⟩:=hs.shape;have n9:=hs.len.2;have p2:(i:Int)<=(s.size:Int):=by omega
 have p5:(s.size:Int)<=4096:=by omega
 unfold Ac;simp only[Re.op,Re.set,Re.lo,Re.hi,Re.group,Re.args]at*;obtain⟨R,hR⟩:∃R,(tx s E).parses (.mk 6 p lo h g args) i l=R:=⟨_,rfl⟩;rw[hR]at M ⊢;clear hR hs hl h8 i3 f3 h4 hk hm ht g8 b7 hp n7 b8 b6;obtain⟨t,rfl⟩:∃t,args= [t]:=by
  rcases i1 with ⟨z | z | z | z | z, -⟩ | z | z | ⟨z, -⟩ | ⟨-,z⟩;all_goals first | exact z | cases z
 have n3:1<=g/\g<=(k:Int):=by simpa using g9
 have g7:g<=4611686018427387904:=by have:=f7.o;omega
 obtain⟨φ,hφ⟩:∃f:Parse->Parse,f=fun p=>(p.1,Di p.2 g ((i:Int),(p.1:Int))):=⟨_,rfl⟩;have b5:Hid (∀p:Parse,φ p=(p.1,Di p.2 g ((i:Int),(p.1:Int)))):=fun p=>by rw[hφ]
 have P:Hid (R=((tx s E).parses t i l).bind fun m=>done s.size (m.map φ)):=by show _=_;rw[M.o,hφ];unfold Text.node;simp[Pf,b1]
 have K:=qh (fun m (hm:(tx s E).parses t i l=some m)=>Dd (tx s E) t i l m (by rw[b1];exact hi) (by rw[b1];exact g1.o) hm);rw[b1,f8.o]at K;have h3:=Bk i8.o (List.mem_singleton.2 rfl);have i4:=m1.o t (List.mem_singleton.2 rfl);have i9:=qh h3;have m0:=qh i4;obtain⟨ta,tc,q5,e0,⟨o0,o1⟩,X⟩:=HL.o.opened;cases e0
 have HO:=qh X;have o4:=qh (X.fit t (by simp));simp only[List.length_singleton]at*;clear X hφ h3 i4 g9 n3;generalize hx0:Sets.Aa p 0=x0 at*;generalize hx1:Sets.Aa p 1=x1 at*;generalize hx2:Sets.Aa p 2=x2 at*;generalize hx3:Sets.Aa p 3=x3 at*;clear hx0 hx1 hx2 hx3;have d:=qh (PW.new w 6 x0 x1 x2 x3 lo h g (.slice va 1 vc) i (.slice sa l.length sc));go_enter func126,ntmps126
 go_upto_region 4 with fail
 generalize ((w.alloc (.cells #[.int .i64 6,.int .u64 x0,.int .u64 x1,.int .u64 x2,.int .u64 x3,.int .i64 lo,.int .i64 h,.int .i64 g,.slice va 1 vc] 28)).alloc (.cells #[.int .i64 (i:Int),.slice sa l.length sc] 119)).alloc (.cells #[.slice none 0 0] 115)=w3 at*;obtain⟨d0,d1,d2,d3,d4,d5,d6,d7,d8,n8⟩:=d.o.box;have h0:w3.cell? ⟨w.heap.size+1,0,none⟩=some (.int .i64 (i:Int)):=by rw[qc d.o.here];rfl
 have z:w3.cell? ⟨w.heap.size+1,1,none⟩=some (.slice sa l.length sc):=by rw[qc d.o.here];rfl
 have j9:=qh (HS.o.stays d.o.bel);have m7:=qh d.o.box;have G:=qh d.o.bel;have g4:=qh (m2.o.stays G.o);have j1:=qh (HM.o.stays G.o);obtain⟨t',tv,b,off,i5,hv,e1,⟨k0,k1,k2,k3,k4,k5,k6,k7,k8⟩,f1,g6,n5⟩:=(HO.o.stays G.o).at (j:=0) (by simp);obtain rfl:t=t':=by simpa using i5
 simp only[Nat.zero_mul,Nat.add_zero]at k0 k1 k2 k3 k4 k5 k6 k7 k8;cases e1
 have O:=qh (g2.o t tv (.slice sa l.length sc) i l mm w3 m0.o i9.o g6 f1 j9.o f8.o g1.o hi j1.o g4.o);unfold Ac at O;obtain⟨q3,q4,rfl⟩:=f1.shape;clear i5 hv f1 g6 n5;cases hf:(tx s E).parses t i l with
 |none=>
  have j8:Hid (R=none):=by show _=_;rw[P.o,hf];rfl
  rw[hf]at O;clear hf;go_wp2_with (first
  | (go_at_call 126
     (refine O.o.mono ?_);rintro e5 w5 ⟨h5,U⟩;obtain rfl:e5=.panicked [{v:=Value.iface 184 (.agg #[]),recovered:=false}]:=h5;have b9:=qh (Ab G.o U)))
  refine⟨rfl,?_⟩;rw[j8.o];exact⟨rfl,b9.o⟩
 |some m=>
  have g3:Hid (R=done s.size (m.map φ)):=by show _=_;rw[P.o,hf];rfl
  have a6:=qh (Ej _ _ _ _ _ hf);have f9:=qh (K.o m hf);have b4:Hid (GP s.size k (m.map φ)):=fun q hq=>by
   obtain⟨p0,n6,rfl⟩:=List.mem_map.1 hq;obtain⟨a1,a2,a3,a4⟩:=f9.o p0 n6;rw[b5.o];exact⟨a2,by rw[<- a3];exact Ha _ _ _,Xu a4 _ (.inr ⟨by simp only;omega,by simp only;omega,by simp only;omega⟩)⟩
  rw[hf]at O;clear hf P K;go_wp2_with (first
  | (go_at_call 126
     (refine O.o.mono ?_);rintro e5 w5 ⟨h5,U⟩;obtain⟨mv,rfl,b0⟩:=h5;have I:=qh U;have b9:=qh (Ab G.o U);have j2:Hid (∀b,mv.ownBlock=some b->w3.heap.size<=b):=fun b r=>(b0.lt b r).1;have j3:=qh b0.lies;obtain⟨ma,mc,rfl⟩:=b0.form;clear b0 U))
  have p4:(m.length:Int)<=4096:=by have:=a6.o;omega
  have j5:=qh (d.o.out.stays I.o);have m6:=qh (m7.o.stays I.o);have i6:=qh I.o.size;have d9:=qh d.o.sz;clear d0 d1 d2 d3 d4 d5 d6 d7 d8 h0 z k0 k1 k2 k3 k4 k5 k6 k7 k8 n8
  go_loopw [153] (fun ix wr=>∃(j:Nat) (ov:Value),j<=m.length/\ix=.int .i64 j/\OBx wr (w.heap.size+1+1) ov ((m.take j).map φ)/\PLies wr (.slice ma m.length mc) m/\Apart (.slice ma m.length mc) ov/\Box9 wr w.heap.size 6 x0 x1 x2 x3 lo h g (.slice (some ⟨b,off,none⟩) 1 vc)/\qw w wr/\w3.heap.size<=wr.heap.size) (fun ix _=>m.length-(intOf ix).toNat)
  case atStart=>exact⟨0,_,Nat.zero_le _,rfl,by simpa using j5.o,j3.o,Apart.nil _,m6.o,b9.o,i6.o⟩
  case round=>
   obtain⟨j,ov,hj,rfl,f2,B,T,f5,f4,Y⟩:=hrel;have a8:=qh f2;have g0:=qh B;have b3:=qh T;have e2:=qh f5;have x:=qh f4;have S:=qh Y;by_cases hjt:j<m.length
   ·  have n4:(j:Int)< (m.length:Int):=by omega
      have hz:m[j]? =some m[j]:=List.getElem?_eq_getElem hjt;obtain⟨mb,o2,yv,em,y1,y2,b2⟩:=B.at hz;obtain⟨ya,yc,rfl⟩:=b2.shape;have p8:=b2.len.2;have a0:=f9.o _ (List.getElem_mem hjt);have m3:Hid ((m.take (j+1)).map φ=(m.take j).map φ++ [φ m[j]]):=by show _=_;rw[List.take_add_one,hz,List.map_append];rfl
      have J:=qh (qb wr (.cells #[.int .i64 (m[j].1:Int),.slice ya m[j].2.length yc] 119));have g5:=qh (heap_alloc_new wr (.cells #[.int .i64 (m[j].1:Int),.slice ya m[j].2.length yc] 119));have n2:=qh (b2.stays J.o);have m8:=qh a0.2.2.1;have j0:Hid (((m.take j).map φ).length<=4096):=by show _<=_;have:=a6.o;simp;omega
      have p7:(m[j].1:Int)<=(s.size:Int):=by have:=a0.2.1;omega
      cases em
      clear hz b2 a0 f2 B T f5 f4 Y;generalize m[j]=y at*;obtain⟨ye,A⟩:=y;simp only at*
      go_upto_region 22 with fail
      have d7:=upc J.o e2.o.d7;generalize wr.alloc (.cells #[.int .i64 (ye:Int),.slice ya A.length yc] 119)=wq at*;have q0:wq.cell? ⟨wr.heap.size,0,none⟩=some (.int .i64 (ye:Int)):=by rw[qc g5.o];rfl
      have q1:wq.cell? ⟨wr.heap.size,1,none⟩=some (.slice ya A.length yc):=by rw[qc g5.o];rfl
      have D:=qh (fun W (hw:qw wq W)=>And.intro (upc hw q0) (And.intro (upc hw q1) (upc hw d7)));have m5:=qh (fun W (hw:qw wq W)=>with_any (.slice ya A.length yc) A g (i:Int) (ye:Int) W (n2.o.stays hw) (by have:=m8.o;have:=f7.o;omega) g7);have f6:=qh (fun W cv (hw:qw wq W) (hc:Al W cv (Di A g ((i:Int),(ye:Int))))=>addTrueN_any (w.heap.size+1+1) ov cv ((m.take j).map φ) (ye,Di A g ((i:Int),(ye:Int))) W (a8.o.stays (Ab J.o hw)) hc (by have:=j0.o;omega));have a7:Hid (∀k,k≠w.heap.size+1+1->(∀b,ov.ownBlock=some b->b≠k)->¬(k=w.heap.size+1+1\/some k=ov.ownBlock)):=fun k hk h2 e=>by
       rcases e with e | e
       · exact hk e
       · exact h2 _ e.symm rfl
      have N:=qh a8.o.2.lt;have p6:=e2.o.lt
      go_region_held3 (fun w'=>w'.cell? ⟨wr.heap.size,0,none⟩=some (.int .i64 (ye:Int))/\w'.cell? ⟨wr.heap.size,1,none⟩=some (.slice ya A.length yc)/\w'.cell? ⟨w.heap.size,7,none⟩=some (.int .i64 g)) (first | exact D.o _ (Below.refl _ _) | exact D.o _ ((Below.refl _ wq).drew) | exact D.o _ u.o | exact m4.o)
       (first
       | (go_at_call 169
          (refine (m5.o _ (by first | exact (Below.refl _ wq).drew | exact Below.refl _ wq)).mono ?_)
          rintro e6 w6 ⟨⟨cv,rfl,e8⟩,e3⟩;have u:Hid (qw wq w6):=(by first | exact Ab ((Below.refl _ wq).drew) e3 | exact e3)
          have i7:=qh e8;obtain⟨o6,o7,rfl⟩:=e8.shape;clear e8 e3)
       | (go_at_call 165
          (refine (f6.o _ _ u.o i7.o).mono ?_);rintro e7 w7 ⟨rfl,⟨v7,h7,h6⟩,V⟩;have j6:=qh h7;have j4:=qh h6;have a5:Hid (Chg (fun b=>b=w.heap.size+1+1\/some b=ov.ownBlock) wr w7):=(Chg.of (C:=fun b=>b=w.heap.size+1+1\/some b=ov.ownBlock) (Ab J.o u.o)).trans V (fun _ _ e=>e);have m4:=qh (And.intro (V.cell (D.o _ u.o).1 (a7.o wr.heap.size (by have:=S.o;have:=d9.o;omega) (fun b r=>by have:=(N.o b r).2;omega))) (And.intro (V.cell (D.o _ u.o).2.1 (a7.o wr.heap.size (by have:=S.o;have:=d9.o;omega) (fun b r=>by have:=(N.o b r).2;omega))) (V.cell (D.o _ u.o).2.2 (a7.o w.heap.size (by omega) (fun b r=>by have:=(N.o b r).1;omega)))));clear h7 h6 V))
      go_wp2_with fail
      go_roundw
      case rel=>
       refine⟨j+1,v7,by omega,by go_num,by rw[m3.o,b5.o];exact j6.o,g0.o.chg a5.o a8.o.noSp (fun b r hC=>?_),b3.o.near j4.o (fun b r=>?_),e2.o.chg a5.o (a7.o _ (by omega) (fun b r=>by have:=(N.o b r).1;omega)),x.o.trans (a5.o.below x.o.size (fun k hk e=>?_)),Nat.le_trans S.o a5.o.size⟩
       ·rcases hC with e | e
        ·  have:=j2.o b r
           have:=d9.o;omega
        · exact b3.o b r e.symm
       ·have z:=World.block_lt_of_cell? wr _ y1
        cases r
        exact Nat.lt_of_lt_of_le z (Ab J.o u.o).size
       ·rcases e with e | e
        · omega
        ·  have:=(N.o _ e.symm).1
           omega
      case measure=>simp[intOf];omega
   ·  have n4:¬(j:Int)< (m.length:Int):=by omega
      have a9:Hid (OBx wr (w.heap.size+1+1) ov (m.map φ)):=by show OBx _ _ _ _;have:=a8.o;rw[show j=m.length by omega,List.take_length]at this;exact this
      have o9:=a9.o.cell;obtain⟨p9,q2,rfl⟩:∃a c,ov=.slice a m.length c:=by have:=a9.o.2.form;simpa using this
      clear f2 B T f5 f4 Y;cases hd:R with
      |none=>
       skip
       go_wp2_with (first
       | (go_at_call 172
          (refine (Q.o _ (m.map φ) _ x.o a9.o.2.lies (by have:=a6.o;simp;omega) b4.o).mono ?_);rintro e9 w9 ⟨h9,e4⟩;rw[<- g3.o,hd]at h9;obtain rfl:e9=.panicked [{v:=Value.iface 184 (.agg #[]),recovered:=false}]:=h9;have c9:=qh (Ab x.o e4)))
       refine⟨rfl,?_⟩;try rw[hd]
       exact⟨rfl,c9.o⟩
      |some m9=>
       skip
       go_wp2_with (first
       | (go_at_call 172
          (refine (Q.o _ (m.map φ) _ x.o a9.o.2.lies (by have:=a6.o;simp;omega) b4.o).mono ?_);rintro e9 w9 ⟨h9,e4⟩;rw[<- g3.o,hd]at h9;obtain⟨v9,rfl,i2⟩:=h9;have j7:=qh (i2.mono (show w.heap.size<=_ from (x.o).size));have c9:=qh (Ab x.o e4);clear i2))
       go_ret;try rw[hd]
       exact⟨⟨_,rfl,j7.o⟩,c9.o⟩
end ReMem
end Go.Proofs.YtjefcpjciogcjaaGreatDoor
