/- Lemmas for the walk of the law, in 3 parts. No condition beyond what each states. -/
import Derived.Test.YtjefcpjciogcjaaGreatDoorG28
import Derived.Test.YtjefcpjciogcjaaGreatDoorG25
import Derived.Test.YtjefcpjciogcjaaGreatDoorG8
import Derived.Test.YtjefcpjciogcjaaGreatDoorG18
import Derived.Test.YtjefcpjciogcjaaGreatDoorG2
namespace Go.Proofs.YtjefcpjciogcjaaGreatDoor
set_option maxRecDepth 100000
set_option linter.unusedVariables false
set_option maxHeartbeats 16000000
open Tryz
namespace ReMem
open Go Go.RowKit MatchMath Strs
def Gd (o:Option (Option (Nat×Parse))):Option (Option (List Span)):=o.map fun x=>x.map fun y=>Am y.1 y.2
theorem Oh {T:Text} {e:Re} {k n:Nat} (h:k<=n):Bp T e (n+1-k) k=match Gt T e k with
  | none=>none
  | some (some p)=>some (some (k,p))
  | some none=>Bp T e (n+1-(k+1)) (k+1):=by
 rw[show n+1-k=(n+1-(k+1))+1 by omega];rfl
theorem refLeft_any (s:ByteArray) (q:Bool) (e:Re) (v:Value) (i:Nat) (w:World) (Q:Lies w v e.args) (y:Ag e) (I:Bz e=0) (R:size e<=100) (hk:Af 6 e<=4096) (P:gok (Af 6 e) e=true) (hi:i<=s.size) (a4:s.size<=4096):
  Calls Tryz.prog 20 #[Ac v e,.string s,.int .i64 i,.bool q] w (ARes w (Gd (leftmost (tx s q) e i))):=by
 have L:=qh (fun W k (hk2:k<=s.size) (hw:qw w W)=>refAt_any s q e v k W (Q.stays hw) y I R hk P hk2 a4);have x:=qh (fun W (hw:qw w W)=>Bw e v W (by omega) y (Q.stays hw));rw[I]at x;have N:Hid (leftmost (tx s q) e i=Bp (tx s q) e (s.size+1-i) i):=by show Bp _ _ _ _=_;rw[show (tx s q).s.length=s.size from Ce s]
 rw[N.o];have E:=qh (fun k (h:k<=s.size)=>Oh (T:=tx s q) (e:=e) h);have b2:(i:Int)<=(s.size:Int):=by omega
 have b4:(s.size:Int)<=4096:=by omega
 have b0:decide ((i:Int)<0)=false:=by simp
 have a6:decide ((s.size:Int)< (i:Int))=false:=by simp;omega
 have a7:decide (s.size<i)=false:=by simp;omega
 obtain⟨S,U,rfl⟩:=Q.shape;have a9:e.args.length<=9223372036854775807:=by
  obtain⟨a,c,vs,h1,⟨G,h3⟩, -⟩:=Q.opened;exact Nat.le_trans G h3
 unfold Ac at L x ⊢;clear Q y I R hk P N;have HB:=qh ((qb w (.cells #[.int .i64 e.op,.int .u64 (Sets.Aa e.set 0:Nat),.int .u64 (Sets.Aa e.set 1:Nat),.int .u64 (Sets.Aa e.set 2:Nat),.int .u64 (Sets.Aa e.set 3:Nat),.int .i64 e.lo,.int .i64 e.hi,.int .i64 e.group,.slice S e.args.length U] 28)).alloc (by simp) (.cells #[.slice none 0 0] 42));have HX:=qh ((Box9.new w e.op (Sets.Aa e.set 0) (Sets.Aa e.set 1) (Sets.Aa e.set 2) (Sets.Aa e.set 3) e.lo e.hi e.group (.slice S e.args.length U) 28).stays ((Below.refl _ _).alloc ql (.cells #[.slice none 0 0] 42)));have z:=heap_alloc_new (w.alloc (.cells #[.int .i64 e.op,.int .u64 (Sets.Aa e.set 0:Nat),.int .u64 (Sets.Aa e.set 1:Nat),.int .u64 (Sets.Aa e.set 2:Nat),.int .u64 (Sets.Aa e.set 3:Nat),.int .i64 e.lo,.int .i64 e.hi,.int .i64 e.group,.slice S e.args.length U] 28)) (.cells #[.slice none 0 0] 42);have e0:(w.alloc (.cells #[.int .i64 e.op,.int .u64 (Sets.Aa e.set 0:Nat),.int .u64 (Sets.Aa e.set 1:Nat),.int .u64 (Sets.Aa e.set 2:Nat),.int .u64 (Sets.Aa e.set 3:Nat),.int .i64 e.lo,.int .i64 e.hi,.int .i64 e.group,.slice S e.args.length U] 28)).heap.size=w.heap.size+1:=by simp
 rw[e0]at z;have B:=qh z;clear z e0;go_enter func20,ntmps20;go_wp2_with (first
  | (go_at_call 37
     (refine (x.o _ HB.o).mono ?_);rintro e1 w1 ⟨rfl,A⟩;have X:=qh (Ab HB.o A);have a2:=qh (HX.o.stays A);have a0:=qh ((A.block _ (qd B.o)).trans B.o);clear A))
 go_loopw [12] (fun vk wr=>∃k:Nat,vk=.int .i64 (k:Int)/\k<=s.size+1/\Hid (Bp (tx s q) e (s.size+1-i) i=Bp (tx s q) e (s.size+1-k) k)/\qw w wr/\Box9 wr w.heap.size e.op (Sets.Aa e.set 0) (Sets.Aa e.set 1) (Sets.Aa e.set 2) (Sets.Aa e.set 3) e.lo e.hi e.group (.slice S e.args.length U)/\wr.heap[w.heap.size+1]? =some (.cells #[.slice none 0 0] 42)) (fun vk _=>s.size+1-(intOf vk).toNat)
 case atStart=>exact⟨i,rfl,by omega,rfl,X.o,a2.o,a0.o⟩
 case round=>
  obtain⟨k,rfl,b3,m,hb,O,hr⟩:=hrel;have u:=qh hb;have Y:=qh O;have HR:=qh hr;obtain⟨d0,d1,d2,d3,d4,d5,d6,d7,d8, -⟩:=O;clear hb hr;by_cases hlt:k<=s.size
  ·have b1:(k:Int)<=(s.size:Int):=by omega
   have HS:=qh (E.o k hlt);have K:=qh (L.o wr k hlt u.o);have j:w.heap.size+1<wr.heap.size:=(qd HR.o);cases hM:Gt (tx s q) e k with
   |  none=>
      rw[hM]at HS K;have g:Hid (Gd (Bp (tx s q) e (s.size+1-i) i)=none):=by show _=_;rw[m.out,HS.o];rfl
      rw[g.o];clear hM HS g m;go_wp2_with (first
       | (go_at_call 38
          (refine K.o.mono ?_);rintro e2 r ⟨G,d⟩;obtain rfl:=G;have t:=qh (Ab u.o d);have n:=d.size;have l:=qh (((qb r (.cells #[.slice none 0 0] 42)).block _ (Nat.lt_of_lt_of_le j n)).trans ((d.block _ j).trans HR.o));have c1:(r.alloc (.cells #[.slice none 0 0] 42)).cell? ⟨w.heap.size+1,0,none⟩=some (.slice none 0 0):=by rw[qc l.o];rfl
          have z1:(r.alloc (.cells #[.slice none 0 0] 42)).frozen? ⟨w.heap.size+1,0,none⟩=false:=by unfold World.frozen?;rw[l.o];simp
          clear d))
      have c2:((r.alloc (.cells #[.slice none 0 0] 42)).setCell ⟨w.heap.size+1,0,none⟩ (.slice none 0 0)).cell? ⟨w.heap.size+1,0,none⟩=some (.slice none 0 0):=Aq c1;try simp only[Exit.inBlock,Exit.then]
      refine bodyPost_ret (v:=.tuple #[.agg #[.slice none 0 0],.bool false,.int .i64 11]) (by simp[results,results20,go_sem,c2]) rfl ?_;exact⟨rfl,(t.o.alloc (Nat.le_trans (Nat.le_of_lt (Nat.lt_of_succ_lt j)) n) _).setCell (Nat.le_succ _) _⟩
   |  some o=>
      cases o with
      |some p=>
       rw[hM]at HS K;have g:Hid (Gd (Bp (tx s q) e (s.size+1-i) i)=some (some (Am k p))):=by show _=_;rw[m.out,HS.o];rfl
       rw[g.o];clear hM HS g m;go_wp2_with (first
        | ( go_at_call 38
            (refine K.o.mono ?_);rintro e2 r ⟨G,d⟩;obtain⟨mv,rfl,J⟩:=G;obtain⟨C,D,rfl⟩:=J.shape;have a1:=qh J;clear J;have t:=qh (Ab u.o d);have n:=d.size;have l:=qh (((qb r (.cells #[.slice C (Am k p).length D] 42)).block _ (Nat.lt_of_lt_of_le j n)).trans ((d.block _ j).trans HR.o));have c1:(r.alloc (.cells #[.slice C (Am k p).length D] 42)).cell? ⟨w.heap.size+1,0,none⟩=some (.slice none 0 0):=by rw[qc l.o];rfl
            have z1:(r.alloc (.cells #[.slice C (Am k p).length D] 42)).frozen? ⟨w.heap.size+1,0,none⟩=false:=by unfold World.frozen?;rw[l.o];simp
            clear d))
       have c2:((r.alloc (.cells #[.slice C (Am k p).length D] 42)).setCell ⟨w.heap.size+1,0,none⟩ (.slice C (Am k p).length D)).cell? ⟨w.heap.size+1,0,none⟩=some (.slice C (Am k p).length D):=Aq c1;try simp only[Exit.inBlock,Exit.then]
       refine bodyPost_ret (v:=.tuple #[.agg #[.slice C (Am k p).length D],.bool true,.int .i64 0]) (by simp[results,results20,go_sem,c2]) rfl ?_;refine⟨⟨_,rfl,?_⟩,?_⟩
       ·have a5:NoSp (fun b=>b=w.heap.size+1) (r.alloc (.cells #[.slice C (Am k p).length D] 42)):=fun b a8 fz e V=>by
           subst e;rw[l.o]at V;injection V with V;injection V with _ h1 _;exact absurd h1 (by decide)
        exact (a1.o.stays ((Below.refl _ _).alloc ql _)).chg (Chg.setCell _ (w.heap.size+1) 0 _) a5
       · exact (t.o.alloc (Nat.le_trans (Nat.le_of_lt (Nat.lt_of_succ_lt j)) n) _).setCell (Nat.le_succ _) _
      |none=>
       rw[hM]at HS K;have g:Hid (Bp (tx s q) e (s.size+1-i) i=Bp (tx s q) e (s.size+1-(k+1)) (k+1)):=by show _=_;rw[m.out,HS.o]
       clear hM HS m;go_wp2_with (first
        | ( go_at_call 38
            (refine K.o.mono ?_);rintro e2 r ⟨G,d⟩;obtain rfl:=G;have M:=qh (Y.o.stays d);have t:=qh (Ab u.o d);have n:=d.size;have l:=qh (((qb r (.cells #[.slice none 0 0] 42)).block _ (Nat.lt_of_lt_of_le j n)).trans ((d.block _ j).trans HR.o));have c1:(r.alloc (.cells #[.slice none 0 0] 42)).cell? ⟨w.heap.size+1,0,none⟩=some (.slice none 0 0):=by rw[qc l.o];rfl
            have z1:(r.alloc (.cells #[.slice none 0 0] 42)).frozen? ⟨w.heap.size+1,0,none⟩=false:=by unfold World.frozen?;rw[l.o];simp
            clear d))
       go_roundw
       case rel=>exact⟨k+1,by go_num,by omega,g.o,t.o.alloc (Nat.le_trans (Nat.le_of_lt (Nat.lt_of_succ_lt j)) n) _,M.o.stays ((Below.refl _ _).alloc ql _),l.o⟩
       case measure=>simp[intOf];omega
  ·have b1:¬(k:Int)<=(s.size:Int):=by omega
   have a3:k=s.size+1:=by omega
   subst a3;have g:Hid (Gd (Bp (tx s q) e (s.size+1-i) i)=some none):=by show _=_;rw[m.out,Nat.sub_self];rfl
   have c1:wr.cell? ⟨w.heap.size+1,0,none⟩=some (.slice none 0 0):=by rw[qc HR.o];rfl
   have z1:wr.frozen? ⟨w.heap.size+1,0,none⟩=false:=by unfold World.frozen?;rw[HR.o];simp
   clear m;go_wp2;have c2:(wr.setCell ⟨w.heap.size+1,0,none⟩ (.slice none 0 0)).cell? ⟨w.heap.size+1,0,none⟩=some (.slice none 0 0):=Aq c1;try simp only[Exit.inBlock,Exit.then]
   refine bodyPost_ret (v:=.tuple #[.agg #[.slice none 0 0],.bool false,.int .i64 0]) (by simp[results,results20,go_sem,c2]) rfl ?_;rw[g.o];exact⟨rfl,u.o.setCell (Nat.le_succ _) _⟩
end ReMem
namespace ReMem
open Go Go.RowKit MatchMath Strs
theorem leftP_any (s:ByteArray) (q:Bool) (e:Re) (v:Value) (i:Nat) (w:World) (R:Lies w v e.args) (x:Ag e) (I:Bz e=0) (K:size e<=100) (hk:Af 6 e<=4096) (Q:gok (Af 6 e) e=true) (hi:i<=s.size) (S:s.size<=4096) (ht:Tabs w):
  Calls Tryz.prog 16 #[Ac v e,.string s,.int .i64 i,.bool q] w (ARes w (Gd (leftmost (tx s q) e i))):=by
 have M:=qh (fun W k (hk2:k<=s.size) (hw:qw w W)=>atP_any s q e v k W (R.stays hw) x I K hk Q hk2 S (ht.stays hw));have A:=qh (fun W (hw:qw w W)=>Vp s e v i W (R.stays hw) x I K hi S);have O:Hid (leftmost (tx s q) e i=Bp (tx s q) e (s.size+1-i) i):=by show Bp _ _ _ _=_;rw[show (tx s q).s.length=s.size from Ce s]
 rw[O.o];have E:=qh (fun k (h:k<=s.size)=>Oh (T:=tx s q) (e:=e) h);have b2:(i:Int)<=(s.size:Int):=by omega
 have b4:(s.size:Int)<=4096:=by omega
 have b0:decide ((i:Int)<0)=false:=by simp
 have a6:decide ((s.size:Int)< (i:Int))=false:=by simp;omega
 have a7:decide (s.size<i)=false:=by simp;omega
 obtain⟨U,V,rfl⟩:=R.shape;have a9:e.args.length<=9223372036854775807:=by
  obtain⟨a,c,vs,h1,⟨G,h3⟩, -⟩:=R.opened;exact Nat.le_trans G h3
 unfold Ac at M A ⊢;clear R x I K hk Q O ht;have HB:=qh ((qb w (.cells #[.int .i64 e.op,.int .u64 (Sets.Aa e.set 0:Nat),.int .u64 (Sets.Aa e.set 1:Nat),.int .u64 (Sets.Aa e.set 2:Nat),.int .u64 (Sets.Aa e.set 3:Nat),.int .i64 e.lo,.int .i64 e.hi,.int .i64 e.group,.slice U e.args.length V] 28)).alloc (by simp) (.cells #[.slice none 0 0] 42));have HX:=qh ((Box9.new w e.op (Sets.Aa e.set 0) (Sets.Aa e.set 1) (Sets.Aa e.set 2) (Sets.Aa e.set 3) e.lo e.hi e.group (.slice U e.args.length V) 28).stays ((Below.refl _ _).alloc ql (.cells #[.slice none 0 0] 42)));have y:=heap_alloc_new (w.alloc (.cells #[.int .i64 e.op,.int .u64 (Sets.Aa e.set 0:Nat),.int .u64 (Sets.Aa e.set 1:Nat),.int .u64 (Sets.Aa e.set 2:Nat),.int .u64 (Sets.Aa e.set 3:Nat),.int .i64 e.lo,.int .i64 e.hi,.int .i64 e.group,.slice U e.args.length V] 28)) (.cells #[.slice none 0 0] 42);have e0:(w.alloc (.cells #[.int .i64 e.op,.int .u64 (Sets.Aa e.set 0:Nat),.int .u64 (Sets.Aa e.set 1:Nat),.int .u64 (Sets.Aa e.set 2:Nat),.int .u64 (Sets.Aa e.set 3:Nat),.int .i64 e.lo,.int .i64 e.hi,.int .i64 e.group,.slice U e.args.length V] 28)).heap.size=w.heap.size+1:=by simp
 rw[e0]at y;have B:=qh y;clear y e0;go_enter func16,ntmps16;go_wp2_with (first
  | (go_at_call 34
     (refine (A.o _ HB.o).mono ?_);rintro e1 w1 ⟨rfl,z⟩;have Y:=qh (Ab HB.o z);have a3:=qh (HX.o.stays z);have a1:=qh ((z.block _ (qd B.o)).trans B.o);clear z))
 go_loopw [12] (fun vk wr=>∃k:Nat,vk=.int .i64 (k:Int)/\k<=s.size+1/\Hid (Bp (tx s q) e (s.size+1-i) i=Bp (tx s q) e (s.size+1-k) k)/\qw w wr/\Box9 wr w.heap.size e.op (Sets.Aa e.set 0) (Sets.Aa e.set 1) (Sets.Aa e.set 2) (Sets.Aa e.set 3) e.lo e.hi e.group (.slice U e.args.length V)/\wr.heap[w.heap.size+1]? =some (.cells #[.slice none 0 0] 42)) (fun vk _=>s.size+1-(intOf vk).toNat)
 case atStart=>exact⟨i,rfl,by omega,rfl,Y.o,a3.o,a1.o⟩
 case round=>
  obtain⟨k,rfl,b3,m,hb,P,hr⟩:=hrel;have u:=qh hb;have a0:=qh P;have HR:=qh hr;obtain⟨d0,d1,d2,d3,d4,d5,d6,d7,d8, -⟩:=P;clear hb hr;by_cases hlt:k<=s.size
  ·have b1:(k:Int)<=(s.size:Int):=by omega
   have HS:=qh (E.o k hlt);have L:=qh (M.o wr k hlt u.o);have j:w.heap.size+1<wr.heap.size:=(qd HR.o);cases hM:Gt (tx s q) e k with
   |  none=>
      rw[hM]at HS L;have g:Hid (Gd (Bp (tx s q) e (s.size+1-i) i)=none):=by show _=_;rw[m.out,HS.o];rfl
      rw[g.o];clear hM HS g m;go_wp2_with (first
       | (go_at_call 35
          (refine L.o.mono ?_);rintro e2 r ⟨G,d⟩;obtain rfl:=G;have t:=qh (Ab u.o d);have n:=d.size;have l:=qh (((qb r (.cells #[.slice none 0 0] 42)).block _ (Nat.lt_of_lt_of_le j n)).trans ((d.block _ j).trans HR.o));have c1:(r.alloc (.cells #[.slice none 0 0] 42)).cell? ⟨w.heap.size+1,0,none⟩=some (.slice none 0 0):=by rw[qc l.o];rfl
          have z1:(r.alloc (.cells #[.slice none 0 0] 42)).frozen? ⟨w.heap.size+1,0,none⟩=false:=by unfold World.frozen?;rw[l.o];simp
          clear d))
      have c2:((r.alloc (.cells #[.slice none 0 0] 42)).setCell ⟨w.heap.size+1,0,none⟩ (.slice none 0 0)).cell? ⟨w.heap.size+1,0,none⟩=some (.slice none 0 0):=Aq c1;try simp only[Exit.inBlock,Exit.then]
      refine bodyPost_ret (v:=.tuple #[.agg #[.slice none 0 0],.bool false,.int .i64 11]) (by simp[results,results16,go_sem,c2]) rfl ?_;exact⟨rfl,(t.o.alloc (Nat.le_trans (Nat.le_of_lt (Nat.lt_of_succ_lt j)) n) _).setCell (Nat.le_succ _) _⟩
   |  some o=>
      cases o with
      |some p=>
       rw[hM]at HS L;have g:Hid (Gd (Bp (tx s q) e (s.size+1-i) i)=some (some (Am k p))):=by show _=_;rw[m.out,HS.o];rfl
       rw[g.o];clear hM HS g m;go_wp2_with (first
        | ( go_at_call 35
            (refine L.o.mono ?_);rintro e2 r ⟨G,d⟩;obtain⟨mv,rfl,J⟩:=G;obtain⟨C,D,rfl⟩:=J.shape;have a2:=qh J;clear J;have t:=qh (Ab u.o d);have n:=d.size;have l:=qh (((qb r (.cells #[.slice C (Am k p).length D] 42)).block _ (Nat.lt_of_lt_of_le j n)).trans ((d.block _ j).trans HR.o));have c1:(r.alloc (.cells #[.slice C (Am k p).length D] 42)).cell? ⟨w.heap.size+1,0,none⟩=some (.slice none 0 0):=by rw[qc l.o];rfl
            have z1:(r.alloc (.cells #[.slice C (Am k p).length D] 42)).frozen? ⟨w.heap.size+1,0,none⟩=false:=by unfold World.frozen?;rw[l.o];simp
            clear d))
       have c2:((r.alloc (.cells #[.slice C (Am k p).length D] 42)).setCell ⟨w.heap.size+1,0,none⟩ (.slice C (Am k p).length D)).cell? ⟨w.heap.size+1,0,none⟩=some (.slice C (Am k p).length D):=Aq c1;try simp only[Exit.inBlock,Exit.then]
       refine bodyPost_ret (v:=.tuple #[.agg #[.slice C (Am k p).length D],.bool true,.int .i64 0]) (by simp[results,results16,go_sem,c2]) rfl ?_;refine⟨⟨_,rfl,?_⟩,?_⟩
       ·have a5:NoSp (fun b=>b=w.heap.size+1) (r.alloc (.cells #[.slice C (Am k p).length D] 42)):=fun b a8 fz e X=>by
           subst e;rw[l.o]at X;injection X with X;injection X with _ h1 _;exact absurd h1 (by decide)
        exact (a2.o.stays ((Below.refl _ _).alloc ql _)).chg (Chg.setCell _ (w.heap.size+1) 0 _) a5
       · exact (t.o.alloc (Nat.le_trans (Nat.le_of_lt (Nat.lt_of_succ_lt j)) n) _).setCell (Nat.le_succ _) _
      |none=>
       rw[hM]at HS L;have g:Hid (Bp (tx s q) e (s.size+1-i) i=Bp (tx s q) e (s.size+1-(k+1)) (k+1)):=by show _=_;rw[m.out,HS.o]
       clear hM HS m;go_wp2_with (first
        | ( go_at_call 35
            (refine L.o.mono ?_);rintro e2 r ⟨G,d⟩;obtain rfl:=G;have N:=qh (a0.o.stays d);have t:=qh (Ab u.o d);have n:=d.size;have l:=qh (((qb r (.cells #[.slice none 0 0] 42)).block _ (Nat.lt_of_lt_of_le j n)).trans ((d.block _ j).trans HR.o));have c1:(r.alloc (.cells #[.slice none 0 0] 42)).cell? ⟨w.heap.size+1,0,none⟩=some (.slice none 0 0):=by rw[qc l.o];rfl
            have z1:(r.alloc (.cells #[.slice none 0 0] 42)).frozen? ⟨w.heap.size+1,0,none⟩=false:=by unfold World.frozen?;rw[l.o];simp
            clear d))
       go_roundw
       case rel=>exact⟨k+1,by go_num,by omega,g.o,t.o.alloc (Nat.le_trans (Nat.le_of_lt (Nat.lt_of_succ_lt j)) n) _,N.o.stays ((Below.refl _ _).alloc ql _),l.o⟩
       case measure=>simp[intOf];omega
  ·have b1:¬(k:Int)<=(s.size:Int):=by omega
   have a4:k=s.size+1:=by omega
   subst a4;have g:Hid (Gd (Bp (tx s q) e (s.size+1-i) i)=some none):=by show _=_;rw[m.out,Nat.sub_self];rfl
   have c1:wr.cell? ⟨w.heap.size+1,0,none⟩=some (.slice none 0 0):=by rw[qc HR.o];rfl
   have z1:wr.frozen? ⟨w.heap.size+1,0,none⟩=false:=by unfold World.frozen?;rw[HR.o];simp
   clear m;go_wp2;have c2:(wr.setCell ⟨w.heap.size+1,0,none⟩ (.slice none 0 0)).cell? ⟨w.heap.size+1,0,none⟩=some (.slice none 0 0):=Aq c1;try simp only[Exit.inBlock,Exit.then]
   refine bodyPost_ret (v:=.tuple #[.agg #[.slice none 0 0],.bool false,.int .i64 0]) (by simp[results,results16,go_sem,c2]) rfl ?_;rw[g.o];exact⟨rfl,u.o.setCell (Nat.le_succ _) _⟩
end ReMem
namespace ReMem
open Go Go.RowKit MatchMath
theorem linesR_any (p:ByteArray) (f b:Int) (e:Re) (v:Value) (w:World) (c:Lies w v e.args) (d:0<=f/\f<=7):
  Calls Tryz.prog 25 #[Bn p f b v e] w fun r w'=>r=.returned (.bool (decide (4<=f)))/\qw w w':=by
 obtain⟨g,h,rfl⟩:=c.shape;have a:=qh (qb w (.cells (XA p f b e g h) 30));unfold Bn;clear c;rcases (by omega:f=0\/f=1\/f=2\/f=3\/f=4\/f=5\/f=6\/f=7) with rfl | rfl | rfl | rfl | rfl | rfl | rfl | rfl;all_goals
  clear d;go_enter func25,ntmps25;go_wp2;go_ret;exact⟨rfl,a.o⟩
theorem Ui (e:Re) (v:Value) (A:Bool) (w:World) (y:size e<=100) (h:Bf e=true) (t:Ag e) (m:Lies w v e.args):
  Calls Tryz.prog 24 #[Ac v e,.bool A] w fun r w'=>r=.returned (.bool (Lk e))/\qw w w':=by
 have a:=qh (fun W (hw:qw w W)=>Jq (size e+1) e v W (Nat.lt_succ_self _) t (m.stays hw));have u:Hid (∀i j,v=.slice i e.args.length j->TB (w.alloc (.cells (xA e i j) 28)) w.heap.size (xL e i j)):=fun i j E=>TB.new w _;have d:=qh (fun (i:Option Addr) (j:Nat)=>qb w (.cells (xA e i j) 28));by_cases h9:Af 9 e=0
 ·have b:Hb 9 e=false:=by unfold Hb;rw[h9];rfl
  have l:=qh (fun W (hw:qw w W)=>compR_any e v A W y h (Pe h) b t (m.stays hw));rw[b]at a;rw[Wu h9];obtain⟨i,j,rfl⟩:=m.shape;unfold Ac at a l ⊢;rcases Ob e with z | z;all_goals
   rw[z]at l ⊢;clear m t y h z h9 b;go_enter func24,ntmps24;go_wp2_with (first
    | (go_at_call 42
       (refine (a.o _ (d.o _ _)).mono ?_);rintro p B ⟨rfl,c⟩;have g:=qh (Ab (d.o _ _) c);have x:=qh ((u.o _ _ rfl).stays c);obtain⟨J,K,L,M,N,O,P,Q,R⟩:=x.o.nine;clear c)
    | (go_at_call 43
       (refine (l.o _ g.o).mono ?_);rintro p I ⟨⟨C,G,c2,D,rfl⟩,q⟩;have n:=qh (Ab g.o q);clear q))
   go_ret;exact⟨rfl,n.o.alloc n.o.size _⟩
 ·have b:Hb 9 e=true:=by unfold Hb;simp;omega
  rw[b]at a;rw[Tj h9];obtain⟨i,j,rfl⟩:=m.shape;unfold Ac at a ⊢;clear m t y h h9 b;go_enter func24,ntmps24;go_wp2_with (first
   | (go_at_call 42
      (refine (a.o _ (d.o _ _)).mono ?_);rintro p B ⟨rfl,c⟩;have g:=qh (Ab (d.o _ _) c);clear c))
  go_ret;exact⟨rfl,g.o⟩
theorem valid_bad (p:ByteArray) (f b:Int) (e:Re) (v:Value) (w:World) (hs:size e<=100) (n:Ag e) (A:Lies w v e.args) (y:¬(Bf e=true/\b=(Af 6 e:Int)/\0<=f/\f<=7/\p.size<=256)):
  Calls Tryz.prog 19 #[Bn p f b v e] w (fun r w'=>r=.returned (.bool false)/\qw w w'):=by
 have c:=qh (fun W (hw:qw w W)=>Bw e v W (by omega) n (A.stays hw));have d:=qh (fun W (hw:qw w W)=>Dc (size e+1) e v W (Nat.lt_succ_self _) (by omega) n (A.stays hw));rw[<- Ar e]at y;obtain⟨z,N⟩:∃z,Bz e=z:=⟨_,rfl⟩;obtain⟨K,M⟩:∃K:Nat,Af 6 e=K:=⟨_,rfl⟩;rw[N]at c y;rw[M]at d y;clear N M;have C:¬z=0\/z=0/\¬b=(K:Int)\/z=0/\b=(K:Int)/\f<0\/z=0/\b=(K:Int)/\7<f\/z=0/\b=(K:Int)/\0<=f/\f<=7/\(256:Int)< (p.size:Int):=by omega
 clear y;obtain⟨t,u,rfl⟩:=A.shape;have q:=RX.new w p f b (.slice t e.args.length u) e;have i:=qh (qb w (.cells (XA p f b e t u) 30));unfold Ac at c d;unfold Bn;clear A;go_enter func19,ntmps19;go_wp2_with fail
 generalize w.alloc (.cells (XA p f b e t u) 30)=w0 at*;obtain⟨X,F,hN,m,J,B⟩:=Quietly.worlds w0;have g:Hid (∀x,qw w (F x)):=fun x=>i.o.trans ((m x).mono i.o.size);have a:Hid (∀x,RX (F x) w.heap.size p f b (.slice t e.args.length u) e):=fun x=>q.stays (m x);have j:=qh (fun x=>c.o _ (g.o x));have l:=qh (fun x=>d.o _ (g.o x));have c0:∀x,(F x).cell? ⟨w.heap.size,0,none⟩=some (.string p):=fun x=>(a.o x).facts.1;have c1:∀x,(F x).cell? ⟨w.heap.size,1,none⟩=some (.int .i64 f):=fun x=>(a.o x).facts.2.1;have c2:∀x,(F x).cell? ⟨w.heap.size,2,none⟩=some (.int .i64 b):=fun x=>(a.o x).facts.2.2.1;have c3:∀x,(F x).cell? ⟨w.heap.size,3,none⟩=some (.int .i64 e.op):=fun x=>(a.o x).facts.2.2.2.1;have c4:∀x,(F x).cell? ⟨w.heap.size,4,none⟩=some (.int .u64 (Sets.Aa e.set 0:Nat)):=fun x=>(a.o x).facts.2.2.2.2.1;have c5:∀x,(F x).cell? ⟨w.heap.size,5,none⟩=some (.int .u64 (Sets.Aa e.set 1:Nat)):=fun x=>(a.o x).facts.2.2.2.2.2.1;have c6:∀x,(F x).cell? ⟨w.heap.size,6,none⟩=some (.int .u64 (Sets.Aa e.set 2:Nat)):=fun x=>(a.o x).facts.2.2.2.2.2.2.1;have c7:∀x,(F x).cell? ⟨w.heap.size,7,none⟩=some (.int .u64 (Sets.Aa e.set 3:Nat)):=fun x=>(a.o x).facts.2.2.2.2.2.2.2.1;have c8:∀x,(F x).cell? ⟨w.heap.size,8,none⟩=some (.int .i64 e.lo):=fun x=>(a.o x).facts.2.2.2.2.2.2.2.2.1;have c9:∀x,(F x).cell? ⟨w.heap.size,9,none⟩=some (.int .i64 e.hi):=fun x=>(a.o x).facts.2.2.2.2.2.2.2.2.2.1;have O:∀x,(F x).cell? ⟨w.heap.size,10,none⟩=some (.int .i64 e.group):=fun x=>(a.o x).facts.2.2.2.2.2.2.2.2.2.2.1;have P:∀x,(F x).cell? ⟨w.heap.size,11,none⟩=some (.slice t e.args.length u):=fun x=>(a.o x).facts.2.2.2.2.2.2.2.2.2.2.2
 clear q c d;refine Quietly.region (by kernel_rfl) (by kernel_rfl) J B ?_;rcases C with R | ⟨rfl,S⟩ | ⟨rfl,rfl,h3⟩ | ⟨rfl,rfl,h4⟩ | ⟨rfl,rfl,Y,V,a1⟩;have L:(z==0)=false:=beq_eq_false_iff_ne.2 R;have a2:(z != 0)=true:=by simp[bne,L]
 rotate_left;have I:(b==(K:Int))=false:=beq_eq_false_iff_ne.2 S;have a0:(b != (K:Int))=true:=by simp[bne,I]
 rotate_left;rotate_left;have G:¬f<0:=by omega
 have D:decide (f<0)=false:=decide_eq_false (by omega);have E:decide (7<f)=true:=decide_eq_true (by omega);rotate_left;have G:¬f<0:=by omega
 have U:¬7<f:=by omega
 have D:decide (f<0)=false:=decide_eq_false (by omega);have E:decide (7<f)=false:=decide_eq_false (by omega);have T:decide ((256:Int)< (p.size:Int))=true:=decide_eq_true (by omega);rotate_left;all_goals
  repeat go_big_quiet_step (first
   | (go_at_call 37
      (with_reducible refine (j.o _).mono ?_);rintro Q w1 ⟨rfl,h⟩;exact⟨rfl,B _ _ h⟩)
   | (go_at_call 23
      (with_reducible refine (l.o _).mono ?_);rintro Q w1 ⟨rfl,h⟩;exact⟨rfl,B _ _ h⟩))
  refine wpQuiet_nil ?_;rintro _ ⟨xx,rfl⟩;go_wp2;go_ret;exact⟨rfl,g.o xx⟩
theorem ValidR_fine (p:ByteArray) (f gr:Int) (e:Re) (v:Value) (w:World) (hs:size e<=100) (z:Bf e=true) (L:gr=(Af 6 e:Int)) (P:0<=f/\f<=7) (hp:p.size<=256) (A:Ag e) (M:Lies w v e.args):
  Calls Tryz.prog 19 #[Bn p f gr v e] w (fun r w'=>r=.returned (.bool (Lk e))/\qw w w'):=by
 have j:=qh (fun W (hw:qw w W)=>Bw e v W (by omega) A (M.stays hw));have l:=qh (fun W (hw:qw w W)=>Dc (size e+1) e v W (Nat.lt_succ_self _) (by omega) A (M.stays hw));rw[(Ar e).2 z]at j;have E:=qh z;have Q:=qh A;have U:=qh hs;obtain⟨K,hK⟩:∃K:Nat,Af 6 e=K:=⟨_,rfl⟩;rw[hK]at l L;subst L;have a4:¬f<0:=by omega
 have a5:¬7<f:=by omega
 have a6:f<=7:=P.2;have a7:0<=f:=P.1;have S:=qh P;have a8:(p.size:Int)<=256:=by omega
 have a1:decide (f<0)=false:=decide_eq_false (by omega);have a2:decide (7<f)=false:=decide_eq_false (by omega);have a3:decide ((256:Int)< (p.size:Int))=false:=decide_eq_false (by omega);clear P hp;obtain⟨R,Y⟩:∃R,Lk e=R:=⟨_,rfl⟩;rw[Y];have HR:=qh Y;clear z hK Y;obtain⟨h,i,rfl⟩:=M.shape;have G:=qh M;have N:=RX.new w p f (K:Int) (.slice h e.args.length i) e;have C:=qh (qb w (.cells (XA p f (K:Int) e h i) 30));have a0:Hid (p.size=p.size):=rfl;unfold Ac at j l;unfold Bn;clear M;go_enter func19,ntmps19;go_wp2_with fail
 generalize w.alloc (.cells (XA p f (K:Int) e h i) 30)=w0 at*;obtain⟨X,F,hN,d,m,y⟩:=Quietly.worlds w0;have b:Hid (∀x,qw w (F x)):=fun x=>C.o.trans ((d x).mono C.o.size);have a:Hid (∀x,RX (F x) w.heap.size p f (K:Int) (.slice h e.args.length i) e):=fun x=>N.stays (d x);have q:=qh (fun x=>j.o _ (b.o x));have t:=qh (fun x=>l.o _ (b.o x));have c0:∀x,(F x).cell? ⟨w.heap.size,0,none⟩=some (.string p):=fun x=>(a.o x).facts.1;have c1:∀x,(F x).cell? ⟨w.heap.size,1,none⟩=some (.int .i64 f):=fun x=>(a.o x).facts.2.1;have c2:∀x,(F x).cell? ⟨w.heap.size,2,none⟩=some (.int .i64 (K:Int)):=fun x=>(a.o x).facts.2.2.1;have c3:∀x,(F x).cell? ⟨w.heap.size,3,none⟩=some (.int .i64 e.op):=fun x=>(a.o x).facts.2.2.2.1;have c4:∀x,(F x).cell? ⟨w.heap.size,4,none⟩=some (.int .u64 (Sets.Aa e.set 0:Nat)):=fun x=>(a.o x).facts.2.2.2.2.1;have c5:∀x,(F x).cell? ⟨w.heap.size,5,none⟩=some (.int .u64 (Sets.Aa e.set 1:Nat)):=fun x=>(a.o x).facts.2.2.2.2.2.1;have c6:∀x,(F x).cell? ⟨w.heap.size,6,none⟩=some (.int .u64 (Sets.Aa e.set 2:Nat)):=fun x=>(a.o x).facts.2.2.2.2.2.2.1;have c7:∀x,(F x).cell? ⟨w.heap.size,7,none⟩=some (.int .u64 (Sets.Aa e.set 3:Nat)):=fun x=>(a.o x).facts.2.2.2.2.2.2.2.1;have c8:∀x,(F x).cell? ⟨w.heap.size,8,none⟩=some (.int .i64 e.lo):=fun x=>(a.o x).facts.2.2.2.2.2.2.2.2.1;have c9:∀x,(F x).cell? ⟨w.heap.size,9,none⟩=some (.int .i64 e.hi):=fun x=>(a.o x).facts.2.2.2.2.2.2.2.2.2.1;have I:∀x,(F x).cell? ⟨w.heap.size,10,none⟩=some (.int .i64 e.group):=fun x=>(a.o x).facts.2.2.2.2.2.2.2.2.2.2.1
 have J:∀x,(F x).cell? ⟨w.heap.size,11,none⟩=some (.slice h e.args.length i):=fun x=>(a.o x).facts.2.2.2.2.2.2.2.2.2.2.2;clear N j l;refine Quietly.region (by kernel_rfl) (by kernel_rfl) m y ?_;repeat go_big_quiet_step (first
  | (go_at_call 37
     (with_reducible refine (q.o _).mono ?_);rintro V w1 ⟨rfl,c⟩;exact⟨rfl,y _ _ c⟩)
  | (go_at_call 23
     (with_reducible refine (t.o _).mono ?_);rintro V w1 ⟨rfl,c⟩;exact⟨rfl,y _ _ c⟩))
 refine wpQuiet_nil ?_;rintro _ ⟨B,rfl⟩;obtain⟨O,n⟩:∃O,F B=O:=⟨_,rfl⟩;have D:Hid (qw w O):=by rw[<- n];exact b.o B
 have T:Hid (RX O w.heap.size p f (K:Int) (.slice h e.args.length i) e):=by rw[<- n];exact a.o B
 rw[n];clear c0 c1 c2 c3 c4 c5 c6 c7 c8 c9 I J n m y d b a q t hN;clear B F X;go_wp2_with fail
 obtain⟨X,F,hN,d,m,y⟩:=Quietly.worlds O;have b:Hid (∀x,qw w (F x)):=fun x=>D.o.trans ((d x).mono D.o.size);have a:Hid (∀x,RX (F x) w.heap.size p f (K:Int) (.slice h e.args.length i) e):=fun x=>T.o.stays (d x);have u:=qh (fun x=>linesR_any p f (K:Int) e (.slice h e.args.length i) (F x) (G.o.stays (b.o x)) S.o);have g:=qh (fun x=>Ui e (.slice h e.args.length i) (decide (4<=f)) (F x) U.o E.o Q.o (G.o.stays (b.o x)));rw[HR.o]at g;unfold Bn at u;unfold Ac at g;have c0:∀x,(F x).cell? ⟨w.heap.size,0,none⟩=some (.string p):=fun x=>(a.o x).facts.1;have c1:∀x,(F x).cell? ⟨w.heap.size,1,none⟩=some (.int .i64 f):=fun x=>(a.o x).facts.2.1;have c2:∀x,(F x).cell? ⟨w.heap.size,2,none⟩=some (.int .i64 (K:Int)):=fun x=>(a.o x).facts.2.2.1;have c3:∀x,(F x).cell? ⟨w.heap.size,3,none⟩=some (.int .i64 e.op):=fun x=>(a.o x).facts.2.2.2.1;have c4:∀x,(F x).cell? ⟨w.heap.size,4,none⟩=some (.int .u64 (Sets.Aa e.set 0:Nat)):=fun x=>(a.o x).facts.2.2.2.2.1;have c5:∀x,(F x).cell? ⟨w.heap.size,5,none⟩=some (.int .u64 (Sets.Aa e.set 1:Nat)):=fun x=>(a.o x).facts.2.2.2.2.2.1;have c6:∀x,(F x).cell? ⟨w.heap.size,6,none⟩=some (.int .u64 (Sets.Aa e.set 2:Nat)):=fun x=>(a.o x).facts.2.2.2.2.2.2.1;have c7:∀x,(F x).cell? ⟨w.heap.size,7,none⟩=some (.int .u64 (Sets.Aa e.set 3:Nat)):=fun x=>(a.o x).facts.2.2.2.2.2.2.2.1;have c8:∀x,(F x).cell? ⟨w.heap.size,8,none⟩=some (.int .i64 e.lo):=fun x=>(a.o x).facts.2.2.2.2.2.2.2.2.1;have c9:∀x,(F x).cell? ⟨w.heap.size,9,none⟩=some (.int .i64 e.hi):=fun x=>(a.o x).facts.2.2.2.2.2.2.2.2.2.1
 have I:∀x,(F x).cell? ⟨w.heap.size,10,none⟩=some (.int .i64 e.group):=fun x=>(a.o x).facts.2.2.2.2.2.2.2.2.2.2.1;have J:∀x,(F x).cell? ⟨w.heap.size,11,none⟩=some (.slice h e.args.length i):=fun x=>(a.o x).facts.2.2.2.2.2.2.2.2.2.2.2;refine Quietly.region (by kernel_rfl) (by kernel_rfl) m y ?_;repeat go_big_quiet_step (first
  | (go_at_call 25
     (with_reducible refine (u.o _).mono ?_);rintro V w1 ⟨rfl,c⟩;exact⟨rfl,y _ _ c⟩)
  | (go_at_call 24
     (with_reducible refine (g.o _).mono ?_);rintro V w1 ⟨rfl,c⟩;exact⟨rfl,y _ _ c⟩))
 refine wpQuiet_nil ?_;rintro _ ⟨B,rfl⟩;go_wp2;go_ret;exact⟨rfl,b.o B⟩
theorem Xp (p:ByteArray) (f a:Int) (e:Re) (v:Value) (w:World) (m:size e<=100) (b:Ag e) (l:Lies w v e.args):
  Calls Tryz.prog 19 #[Bn p f a v e] w fun r w'=>r=.returned (.bool (Cd e a f p.size))/\qw w w':=by
 by_cases h:Bf e=true/\a=(Af 6 e:Int)/\0<=f/\f<=7/\p.size<=256
 ·obtain⟨c,d,g,i,j⟩:=h
  rw[Xq e a f p.size c d ⟨g,i⟩ j];exact ValidR_fine p f a e v w m c d ⟨g,i⟩ j b l
 ·rw[validRx_not h]
  exact valid_bad p f a e v w m b l h
end ReMem
end Go.Proofs.YtjefcpjciogcjaaGreatDoor
