/- Lemmas for the walk of the law, in 7 parts. No condition beyond what each states. -/
import Derived.Test.YtjefcpjciogcjaaGreatDoorG7
import Derived.Test.YtjefcpjciogcjaaGreatDoorShelf
import Derived.Deep.AppendLies
import Derived.Test.YtjefcpjciogcjaaGreatDoorG3
import Derived.Deep.Upon
import Derived.Test.YtjefcpjciogcjaaGreatDoorG6
import Derived.Deep.Draws
import Derived.Test.YtjefcpjciogcjaaGreatDoorG4
import Derived.BigQuiet
import Derived.Below
import Derived.WalkKit
namespace Go.Proofs.YtjefcpjciogcjaaGreatDoor
set_option maxRecDepth 100000
set_option linter.unusedVariables false
set_option maxHeartbeats 8000000
open Tryz
namespace ReMem
open Go Go.RowKit MatchMath
theorem u8_info:(Tryz.prog.info? 5).map (fun i=>(i.zero,i.size,i.bytes))=some (some (.int .u8 0),1,1):=by kernel_rfl
theorem Kk (n:Int) (c: -9223372036854775808<=n) (d:n<=9223372036854775807):(Lib.itoa n).length<=21:=by
 have a:∀(k u:Nat),u<10^(k+1)->(Lib.decDigits u).length<=k+1:=by
  intro k
  induction k with
  |zero=>
   intro u b;rw[Lib.decDigits,dif_pos (by omega)];simp
  |succ k ih=>
   intro u b;rw[Lib.decDigits];split
   · simp
   ·have:=ih (u/10) (by rw[Nat.div_lt_iff_lt_mul (by decide)];rw[Nat.pow_succ]at b;omega)
    simp only[List.length_append,List.length_singleton];omega
 unfold Lib.itoa;split
 ·have:=a 19 n.natAbs (by show _<100000000000000000000;omega)
  simp only[List.length_cons];omega
 ·have:=a 19 n.toNat (by show _<100000000000000000000;omega)
  omega
theorem itoa_pos (n:Int):0< (Lib.itoa n).length:=by
 have a:∀u,0< (Lib.decDigits u).length:=by
  intro u;rw[Lib.decDigits];split <;> simp
 unfold Lib.itoa;split
 · simp
 · exact a _
def W64s (l:List Span):Prop:=∀x∈l,(-9223372036854775808<=x.1/\x.1<=9223372036854775807)/\(-9223372036854775808<=x.2/\x.2<=9223372036854775807)
theorem Ny (a b:List Int):blanks (a++b)=blanks a++blanks b:=by simp[blanks]
theorem flat_append (a b:List Span):flat (a++b)=flat a++flat b:=by simp[flat]
theorem Pr (a b:List UInt8):Lib.byteCells (a++b)=Lib.byteCells a++Lib.byteCells b:=by simp[Lib.byteCells]
theorem key_any (p:Parse) (sv:Value) (w:World) (R:Al w sv p.2) (hn:p.2.length<=4096) (hw:W64s p.2) (he:p.1<=4096) (ht:Tabs w):
  Calls Tryz.prog 203 #[.agg #[.int .i64 (p.1:Int),sv]] w fun r w'=>r=.returned (.string ⟨(Bl p).toArray⟩)/\qw w w':=by
 obtain⟨e,l⟩:=p;simp only at R hn hw he;obtain⟨S,U,rfl⟩:=R.shape;have HS:=qh R;have HW:=qh hw;have HT:=qh ht;have h3:(e:Int)<=4096:=by omega
 have h8:=R.len.2;obtain⟨i0,f3,f8,f9,g0⟩:=info_parts u8_info;have G:=qh (qb w (.cells #[.int .i64 (e:Int),.slice S l.length U] 119));have C:=heap_alloc_new w (.cells #[.int .i64 (e:Int),.slice S l.length U] 119);have k0:(w.alloc (.cells #[.int .i64 (e:Int),.slice S l.length U] 119)).cell? ⟨w.heap.size,0,none⟩=some (.int .i64 (e:Int)):=by rw[qc C];rfl
 have k1:(w.alloc (.cells #[.int .i64 (e:Int),.slice S l.length U] 119)).cell? ⟨w.heap.size,1,none⟩=some (.slice S l.length U):=by rw[qc C];rfl
 have a1:Hid (∀B W,World.ownsRow W B 5 1 (.slice none 0 0) 0 []):=fun B W=>⟨rfl,.inl ⟨rfl,rfl⟩⟩;have e8:=qh (R.stays G.o);have b6:=ht.stays G.o;clear R hw ht HS C HT;go_enter func203,ntmps203;go_wp2_with fail
 generalize w.alloc (.cells #[.int .i64 (e:Int),.slice S l.length U] 119)=w0 at*;have V:=qh (fun W (hb:qw w0 W) (sv:Value) (n:Nat) (xs:List Value) (i:Int) (h0: -9223372036854775808<=i) (h1:i<=9223372036854775807) (hown:W.ownsRow w0.heap.size 5 1 sv n xs) (hlim:n+21<=140737488355328)=>Tryz.strconv_AppendInt_10 w0.heap.size n i h0 h1 sv xs W hown hb.size hlim (b6.below hb));clear b6;go_wp2_with (first
  | (go_at_call 223
     (refine (V.o _ (Below.refl _ _) _ 0 [] _ (by omega) (by omega) (a1.o _ _) (by omega)).mono ?_);rintro e1 w1 ⟨v1,rfl,J,O, -⟩;rw[Nat.zero_add,List.nil_append]at J;obtain⟨g1,c1,rfl,h4,g3⟩:=J.form (itoa_pos _);have e2:=qh J;have b7:=qh O;have m1:=up9 O k1;clear J O))
 have K:∀(x y:Int) (W:World),(Instr.index 274 (.agg #[.int .i64 x,.int .i64 y]) (.int .i64 0)).run Tryz.prog W=.ok (.int .i64 x) W:=fun _ _ _=>rfl;have L:∀(x y:Int) (W:World),(Instr.index 274 (.agg #[.int .i64 x,.int .i64 y]) (.int .i64 1)).run Tryz.prog W=.ok (.int .i64 y) W:=fun _ _ _=>rfl
 go_loopw [3,14] (fun vb vq wr=>∃(q n g c:Nat) (T:List UInt8),vb=.slice (some ⟨g,0,none⟩) n c/\vq=.int .i64 (q:Int)/\q<=l.length/\Hid (T=Lib.itoa (e:Int)++blanks (flat (l.take q)))/\Hid (T.length=n)/\Hid (n<=21+44*q)/\0<n/\World.ownsRow wr w0.heap.size 5 1 (.slice (some ⟨g,0,none⟩) n c) n (Lib.byteCells T)/\qw w0 wr) (fun _ vq _=>l.length-(intOf vq).toNat)
 case atStart=>exact⟨0,_,g1,c1,Lib.itoa (e:Int),rfl,rfl,Nat.zero_le _,by show _=_;simp[flat,blanks],rfl,by show _<=_;have:=Kk (e:Int) (by omega) (by omega);omega,itoa_pos _,e2.o,b7.o⟩
 case round=>
  obtain⟨q,n,g,c,T,rfl,rfl,hq,a5,HN,a0,f6,ho,hb⟩:=hrel;have HO:=qh ho;have I:=qh hb;clear ho hb;by_cases hlt:q<l.length
  ·have f7:(q:Int)< (l.length:Int):=by omega
   obtain⟨x,hx⟩:∃x,l[q]? =some x:=⟨_,List.getElem?_eq_getElem hlt⟩;obtain⟨b,off,rfl,y1,y2⟩:=(e8.o.stays I.o).at hx;have a6:=qh (HW.o x (List.mem_of_getElem? hx));have HX:=qh hx;obtain⟨D,E⟩:=x;simp only at y1 y2;clear hx
   rename World=>wm
   have b9:=qh (I.o.alloc I.o.size (.cells #[.int .i64 D,.int .i64 E] 53));have e6:=qh (HO.o.alloc (.cells #[.int .i64 D,.int .i64 E] 53));have d9:Hid (n<=200000):=by show _<=_;have:=a0.out;omega
   go_wp2;generalize wm.alloc (.cells #[.int .i64 D,.int .i64 E] 53)=wx at*
   go_loopw [3,23] (fun vb vk wr=>∃(k d g c:Nat) (h:List UInt8),vb=.slice (some ⟨g,0,none⟩) d c/\vk=.int .i64 (k:Int)/\k<=2/\Hid (h=T++blanks ([D,E].take k))/\Hid (h.length=d)/\Hid (d<=n+22*k)/\0<d/\World.ownsRow wr w0.heap.size 5 1 (.slice (some ⟨g,0,none⟩) d c) d (Lib.byteCells h)/\qw w0 wr) (fun _ vk _=>2-(intOf vk).toNat)
   case atStart=>exact⟨0,n,g,c,T,rfl,rfl,by omega,by show _=_;simp[blanks],HN,ql,f6,e6.o,b9.o⟩
   case round=>
      obtain⟨k,d,g2,c2,h,rfl,rfl,hk,a4,Y,m,M,b3,a7⟩:=hrel;have a2:=qh b3;have j:=qh a7;have g7:(d:Int)<=300000:=by have:=m.out;have:=d9.o;omega
      clear b3 a7;by_cases hk2:k<2
      ·have f5:(k:Int)<2:=by omega
       obtain⟨z,b1,b2,a⟩:∃z:Int,Hid ([D,E].take (k+1)= [D,E].take k++ [z])/\Hid ((k=0/\z=D)\/(k=1/\z=E))/\Hid (-9223372036854775808<=z/\z<=9223372036854775807):=by
        have b0:k=0\/k=1:=by omega
        rcases b0 with rfl | rfl
        · exact⟨D,rfl,.inl ⟨rfl,rfl⟩,a6.o.1⟩
        · exact⟨E,rfl,.inr ⟨rfl,rfl⟩,a6.o.2⟩
       have h6:∀(W:World),(Instr.index 274 (.agg #[.int .i64 D,.int .i64 E]) (.int .i64 (k:Int))).run Tryz.prog W=.ok (.int .i64 z) W:=by
        intro W;rcases b2.out with ⟨rfl,rfl⟩ | ⟨rfl,rfl⟩
        · exact K _ _ W
        · exact L _ _ W
       have N:=qh (j.o.alloc j.o.size (.cells #[.int .u8 32] 5));have a3:=qh (a2.o.alloc (.cells #[.int .u8 32] 5));have e0:=qh (World.news_of_block (heap_alloc_new wr (.cells #[.int .u8 32] 5)));have b5:wr.heap.size+1=(wr.alloc (.cells #[.int .u8 32] 5)).heap.size:=by simp
       have f0:=qh b5;clear b5 K L;go_wp2_with (first
        | (at_builtin
           refine wpList_append_lies _ rfl _ _ _ rfl w0.heap.size 5 i0 _ 1 1 underlying73 f3 f8 f9 g0 rfl (by omega) _ d (Lib.byteCells h) rfl a3.o ⟨wr.heap.size,0,none⟩ 1 1 [.int .u8 32] rfl rfl e0.o (by intro u hu;simp at hu;subst hu;rfl) (by omega) (by unfold maxLen;omega) (by omega) N.o.size (wr.heap.size+1) f0.o.symm ?_;intro gg f1 w4 A t f2 g6;have e3:Hid (World.ownsRow w4 w0.heap.size 5 1 (.slice (some ⟨gg,0,none⟩) (d+1) f1) (d+1) (Lib.byteCells (h++ [32]))):=by
            have e:=A;rw[show Lib.byteCells h++ [.int .u8 32]=Lib.byteCells (h++ [32]) from (Pr h [32]).symm]at e;exact e
           have X:Hid (qw w0 w4):=N.o.grown t N.o.size (fun z hz=>by cases hz;obtain⟨g9,c9,e9,h9,g8⟩:=a3.o.form M;cases e9;exact h9);clear A t f2)
        | (go_at_call 223
           (refine (V.o _ X.o _ (d+1) _ z a.out.1 a.out.2 e3.o (by omega)).mono ?_);rintro e5 w5 ⟨v5,rfl,Q,a8, -⟩;obtain⟨g5,c5,rfl,h5,g4⟩:=Q.form (by omega);have e4:=qh Q;have b8:=qh (X.o.trans a8);clear Q a8))
       go_roundw
       case rel=>exact⟨k+1,_,g5,c5,h++ [32]++Lib.itoa z,rfl,by go_num,by omega,by
        show _=_;rw[a4.out,b1.out,Ny];simp[blanks],by
        show _=_;have:=Y.out;simp only[List.length_append,List.length_singleton];omega,by
        show _<=_;have h1:=m.out;have h2:=Kk z a.out.1 a.out.2;omega,by omega,by rw[Pr (h++ [32]) (Lib.itoa z)];exact e4.o,b8.o⟩
       case measure=>simp[intOf];omega
      ·have f4:k=2:=by omega
       subst f4;have f5:¬((2:Nat):Int)<2:=by omega
       go_wp2;go_roundw
       case rel=>exact⟨q+1,d,g2,c2,h,rfl,by go_num,by omega,by
        show _=_;rw[a4.out,a5.out];have e1:l.take (q+1)=l.take q++ [(D,E)]:=by
         obtain⟨h1,h2⟩:=List.getElem?_eq_some_iff.1 HX.o;rw[List.take_succ_eq_append_getElem h1,h2]
        rw[e1,flat_append,Ny,List.append_assoc];rfl,Y,by
        show _<=_;have h1:=m.out;have h2:=a0.out;omega,M,a2.o,j.o⟩
       case measure=>simp[intOf];omega
  ·have b4:q=l.length:=by omega
   have f7:¬(q:Int)< (l.length:Int):=by omega
   have e7:=qh b4;have h7:=Own.Row.run_str (P:=Tryz.prog) (l:=T) (Own.Row.of HO.o) 73 9 underlying73 underlying5 underlying9;clear b4;go_wp2;go_ret;have a9:T=Bl (e,l):=by
      rw[a5.out,e7.o,List.take_length];rfl
   exact⟨by rw[a9];rfl,G.o.trans (I.o.mono G.o.size)⟩
end ReMem
namespace ReMem
open Go Go.RowKit MatchMath Strs
theorem Al.news {w:World} {b off n c:Nat} {l:List Span} (h:Al w (.slice (some ⟨b,off,none⟩) n c) l):∀j u,(Az l)[j]? =some u->w.cell? ((⟨b,off,none⟩:Addr).add j)=some u:=by
 intro j u a;have r:=(List.getElem?_eq_some_iff.1 a).1;rw[Gj]at r;have t:j/2<l.length:=by omega
 have g:l[j/2]? =some l[j/2]:=List.getElem?_eq_getElem t;obtain⟨x,i,e,o,p⟩:=h.at g;have q:=Option.some.inj e;injection q with e1 e2 _;subst e1 e2;obtain⟨c1,c2⟩:=Jc l (j/2) _ g;have d:(⟨b,off,none⟩:Addr).add j=⟨b,off+j,none⟩:=by
  by_cases hj0:j=0
  ·subst hj0
   rfl
  · simp[Addr.add,hj0]
 rcases Nat.mod_two_eq_zero_or_one j with m | m
 ·rw[show j/2*2=j by omega]at c1 o
  rw[c1]at a;injection a with a;subst a;rw[d];exact o
 ·rw[show j/2*2+1=j by omega]at c2
  rw[show off+j/2*2+1=off+j by omega]at p;rw[c2]at a;injection a with a;subst a;rw[d];exact p
end ReMem
namespace ReMem
open Go
variable {P:Program}
theorem Uj (w:World) (t ty e:TypeId) (i:TypeInfo) (d:P.underlying t=some (.slice e)) (hi:P.info? e=some i) (base:Option Addr) (n c:Nat) (b:n<=c) (a:Option Addr) (c2:Nat):
  (Builtin.append_ #[t,t] ty #[.slice base n c,.slice a 0 c2]).run P w=.ok (.slice base n c) w:=by
 cases base <;> cases a <;> simp[Builtin.append_,run_underlying d,sizeOf,typeInfo,hi,b,Builtin.lenOf,Builtin.firstCells,storeCells,loadCells,loadCellsFrom]
theorem Fc {o:Oper} {a:Act} {K:Act->World->Prop} {Q:Exit->Act->World->Prop} (w:World) (s x:Operand) (t:TypeId)
  (b:o.op=.call {callee:=.builtin .append,args:=#[s,x],argTypes:=#[t,t]})
  (e:TypeId) (i:TypeInfo) (ht:P.underlying t=some (.slice e)) (hi:P.info? e=some i)
  (base:Option Addr) (n c:Nat) (hle:n<=c) (hs:a.eval s=.slice base n c) (ad:Option Addr) (c2:Nat) (hx:a.eval x=.slice ad 0 c2)
  (h:K (a.put o.dst (.slice base n c)) w):Oper.wp P o a w K Q:=by
 unfold Oper.wp execOp;simp only[b,resolve,invoke,builtin,Sem.run_bind,Sem.run_pure,Result.andThen_ok,List.map_toArray,List.map_cons,List.map_nil,hs,hx,Uj w t o.type e i ht hi base n c hle ad c2];exact h
theorem Je {ops:Array Oper} {b:List Oper} {o:Oper} {a:Act} {Q:Exit->Act->World->Prop} (w:World) (d:o.guard=none) (s x:Operand) (t:TypeId)
  (j:o.op=.call {callee:=.builtin .append,args:=#[s,x],argTypes:=#[t,t]})
  (e:TypeId) (i:TypeInfo) (ht:P.underlying t=some (.slice e)) (hi:P.info? e=some i)
  (base:Option Addr) (n c:Nat) (hle:n<=c) (hs:a.eval s=.slice base n c) (ad:Option Addr) (c2:Nat) (hx:a.eval x=.slice ad 0 c2)
  (h:wpList P ops Q b (a.put o.dst (.slice base n c)) w):wpList P ops Q (o::b) a w:=
 wpList_plain d fun _ g=>Fc w s x t j e i ht hi base n c hle hs ad c2 hx (g _ _ h)
theorem Ry {ops:Array Oper} {o:Oper} {a:Act} {K:Act->World->Prop} {Q:Exit->Act->World->Prop} {E:Prop} (w:World) (b:o.guard=none) (s x:Operand) (t:TypeId)
  (d:o.op=.call {callee:=.builtin .append,args:=#[s,x],argTypes:=#[t,t]})
  (e:TypeId) (i:TypeInfo) (ht:P.underlying t=some (.slice e)) (hi:P.info? e=some i)
  (base:Option Addr) (n c:Nat) (hle:n<=c) (hs:a.eval s=.slice base n c) (ad:Option Addr) (c2:Nat) (hx:a.eval x=.slice ad 0 c2)
  (h:K (a.put o.dst (.slice base n c)) w):if Region.wanted o (yielded ops a.tmps)=true then Oper.wp P o a w K Q else E:=by
 have g:Region.wanted o (yielded ops a.tmps)=true:=by simp[Region.wanted,b]
 rw[if_pos g];exact Fc w s x t d e i ht hi base n c hle hs ad c2 hx h
end ReMem
namespace ReMem
open Go Go.RowKit MatchMath SortMath
theorem owns_made (w:World) (e:TypeId) (size:Nat):World.ownsRow (w.alloc (.cells #[] e)) w.heap.size e size (.slice (some ⟨w.heap.size,0,none⟩) 0 0) 0 []:=
 ⟨by simp,.inr ⟨w.heap.size,0,#[],rfl,ql,heap_alloc_new w _,ql,Nat.zero_le _,by simp,by simp⟩⟩
theorem Qr:(Tryz.prog.info? 53).map (fun i=>(i.zero,i.size,i.bytes))=some (some (.agg #[.int .i64 0,.int .i64 0]),2,16):=by kernel_rfl
theorem cloneSp_any (v:Value) (l:List Span) (w:World) (h:Al w v l) (U:l.length<=1099511627776):
  Calls Tryz.prog 85 #[v] w fun r w'=>(∃v',r=.returned v'/\Al w' v' l)/\qw w w':=by
 obtain⟨a,c,rfl⟩:=h.shape;have T:=h.len.2;have H:=qh h;have Q:∀(w:World) (a:Option Addr) (n c I y:Nat),(binOp .eql 40 (.slice a n c) (.slice none I y)).run Tryz.prog w=.ok (.bool a.isNone) w:=fun w a n c I y=>Lib.run_eql_slice_nil w _ _ a n c I y underlying40;clear h;rcases a with _ | ad
 ·have j:l= []:=by
   by_cases e:l= []
   · exact e
   ·obtain⟨x,t⟩:∃x,l[0]? =some x:=⟨_,List.getElem?_eq_getElem (List.length_pos_iff.2 e)⟩
    obtain⟨b,off,A, -⟩:=H.o.at t;cases A
  subst j;go_enter func85,ntmps85;go_wp2;go_ret;exact⟨⟨_,rfl,Al.nil _⟩,Below.refl _ _⟩
 ·have M:=qh (owns_made w 53 2)
  obtain⟨K,q,D,E,G⟩:=info_parts Qr;have m:=qb w (.cells #[] 53);by_cases h0:l.length=0
  ·have j:l= []:=List.eq_nil_of_length_eq_zero h0
   subst j;go_enter func85,ntmps85;go_wp2_with (first
    | (at_builtin
       refine Je _ rfl _ _ _ rfl 53 K underlying40 q (some ⟨w.heap.size,0,none⟩) 0 0 ql rfl _ _ rfl ?_))
   go_ret;exact⟨⟨_,rfl,⟨_,_,rfl,⟨ql,Nat.zero_le _⟩,fun h=>absurd rfl h⟩⟩,m⟩
  ·have p:=qh ((H.o.stays m))
   obtain⟨x,t⟩:∃x,l[0]? =some x:=⟨_,List.getElem?_eq_getElem (by omega)⟩;obtain⟨b,off,A, -⟩:=H.o.at t;cases A
   have L:=qh p.o.news;have C:0<l.length:=by omega
   clear t;go_enter func85,ntmps85;go_wp2_with (first
    | (at_builtin
       refine wpList_append_lies _ rfl _ _ _ rfl w.heap.size 53 K _ 2 16 underlying40 q D E G rfl (by omega) _ 0 [] rfl M.o ⟨b,off,none⟩ l.length c (Az l) rfl (Gj l) L.o (Hu l) C (by unfold maxLen;omega) (by omega) (by simp) (w.heap.size+1) (by simp) ?_;intro S N R g d B O;have i:=qh g;have u:Hid (qw w R):=m.grown d (by simp) (fun z P=>by cases P;exact ql);clear g d B))
   go_ret;refine⟨⟨_,rfl,?_⟩,u.o⟩;have J:=Own.Row.of i.o;rw[Nat.zero_add,List.nil_append]at J;exact Al.of_row J
def Z (w:World):Type:= {z:El×Parse // z.1.1=(z.2.1:Int)/\Al w (elV z.1) z.2.2}
def Z.el {w:World} (z:Z w):El:=z.1.1
def Z.pa {w:World} (z:Z w):Parse:=z.1.2
def Z.chg {C:Nat->Prop} {w w':World} (hc:Chg C w w') (hn:NoSp C w) (z:Z w):Z w':=⟨z.1,z.2.1,z.2.2.chg hc hn⟩
def Gr (els:List El):List Value:=els.flatMap fun x=> [.int .i64 x.1,elV x]
theorem Mk (l:List El):(Gr l).length=l.length*2:=by
 induction l with
 | nil=>rfl
 | cons x r ih=>simp only[Gr,List.flatMap_cons,List.length_append,List.length_cons,List.length_nil]at *;omega
theorem Sr (l:List El):∀u∈Gr l,u.oneCell'=true:=by
 intro u b;obtain⟨x,_,a⟩:=List.mem_flatMap.1 b;simp at a;rcases a with rfl | rfl <;> rfl
theorem Ox:∀(l:List El) (j:Nat) (x:El),l[j]? =some x->(Gr l)[j*2]? =some (.int .i64 x.1)/\(Gr l)[j*2+1]? =some (elV x)
 | [],j,x,h=>by simp at h
 |y::r,0,x,h=>by
  obtain rfl:y=x:=by simpa using h
  exact⟨rfl,rfl⟩
 |y::r,j+1,x,h=>by
  have:=Ox r j x (by simpa using h);rw[show (j+1)*2=j*2+1+1 from by omega];exact this
theorem PLies.zs {w:World} {v:Value} {l:List Parse} (h:PLies w v l):∃zs:List (Z w),zs.map Z.pa=l/\(l≠ []->∃b off cap,v=.slice (some ⟨b,off,none⟩) l.length cap/\∀j u,(Gr (zs.map Z.el))[j]? =some u->w.cell? ((⟨b,off,none⟩:Addr).add j)=some u):=by
 obtain⟨a,c,rfl,Q,M⟩:=h;by_cases hl:l= []
 ·subst hl
  exact⟨[],rfl,fun h=>absurd rfl h⟩
 ·obtain⟨b,off,g,fz,rfl,G,N⟩:=M hl
  have r:∀i,i<l.length->∃z:Option (Z w),∃q,z=some q/\l[i]? =some q.pa/\g[off+i*2]? =some (.int .i64 q.el.1)/\g[off+i*2+1]? =some (elV q.el):=by
   intro i hi;have B:l[i]? =some l[i]:=List.getElem?_eq_getElem hi;obtain⟨S,t,p,x⟩:=N i _ B;obtain⟨O,P,rfl⟩:=x.shape;exact⟨_,⟨(((l[i].1:Int),O,l[i].2.length,P),l[i]),rfl,x⟩,rfl,B,t,p⟩
  obtain⟨f,I⟩:=Go.Deep.choose_lt r;have A:∀(n:Nat),n<=l.length->∃zs:List (Z w),zs.length=n/\∀i z,zs[i]? =some z->l[i]? =some z.pa/\g[off+i*2]? =some (.int .i64 z.el.1)/\g[off+i*2+1]? =some (elV z.el):=by
   intro n
   induction n with
   | zero=>intro _;exact⟨[],rfl,fun i z h=>by simp at h⟩
   |succ n ih=>
    intro R;obtain⟨zs,t,p⟩:=ih (by omega);obtain⟨q, -,x⟩:=I n (by omega);refine⟨zs++ [q],by simp[t],fun i z d=>?_⟩;by_cases hi:i<n
    ·rw[List.getElem?_append_left (by omega)]at d
     exact p i z d
    ·have y:=(List.getElem?_eq_some_iff.1 d).1
     simp only[List.length_append,List.length_singleton]at y;have e:i=n:=by omega
     subst e;rw[List.getElem?_append_right (by omega)]at d;simp[t]at d;subst d;exact x
  obtain⟨zs,t,p⟩:=A l.length ql;have K:zs.map Z.pa=l:=by
   refine List.ext_getElem? fun i=>?_;by_cases hi:i<l.length
   ·have d:zs[i]? =some zs[i]:=List.getElem?_eq_getElem (by omega)
    rw[List.getElem?_map,d,(p i _ d).1];rfl
   · rw[List.getElem?_eq_none (by simp;omega),List.getElem?_eq_none (by omega)]
  refine⟨zs,K,fun _=>⟨b,off,c,rfl,fun j u o=>?_⟩⟩;have J:=(List.getElem?_eq_some_iff.1 o).1;rw[Mk,List.length_map]at J;have L:j/2<zs.length:=by omega
  have d:zs[j/2]? =some zs[j/2]:=List.getElem?_eq_getElem L;obtain⟨-,C,D⟩:=p _ _ d;obtain⟨c1,c2⟩:=Ox (zs.map Z.el) (j/2) (zs[j/2]).el (by rw[List.getElem?_map,d];rfl);have E:(⟨b,off,none⟩:Addr).add j=⟨b,off+j,none⟩:=by
   by_cases hj0:j=0
   ·subst hj0
    rfl
   · simp[Addr.add,hj0]
  rw[E,qc G];rcases Nat.mod_two_eq_zero_or_one j with m | m
  ·rw[show j/2*2=j by omega]at c1 C
   rw[c1]at o;injection o with o;subst o;exact C
  ·rw[show j/2*2+1=j by omega]at c2
   rw[show off+j/2*2+1=off+j by omega]at D;rw[c2]at o;injection o with o;subst o;exact D
theorem No:(Tryz.prog.info? 119).map (fun i=>(i.zero,i.size,i.bytes))=some (some (.agg #[.int .i64 0,.slice none 0 0]),2,32):=by kernel_rfl
theorem PB.of_row {w:World} {base g n c:Nat} {a:List El} (h:World.ownsRow w base 119 2 (.slice (some ⟨g,0,none⟩) n c) n (Gr a)) (u:a.length=n):PB w g (c*2) a/\base<=g/\n<=c/\c<=maxLen:=by
 rcases h.2 with ⟨e,_⟩ | ⟨t,o,b,e,p,q,l,d,i,m⟩
 · cases e
 ·injection e with e1 e2 e3
  injection e1 with e1;injection e1 with e1;subst e1 e3;refine⟨⟨b,q,i,fun j x r=>?_⟩,p,l,d⟩;obtain⟨c1,c2⟩:=Ox a j x r;rw[<- m,List.getElem?_take]at c1 c2;constructor
  ·split at c1
   · simpa using c1
   · cases c1
  ·split at c2
   · simpa using c2
   · cases c2
theorem cloneP_any (v:Value) (l:List Parse) (w:World) (h:PLies w v l) (hl:l.length<=1099511627776):
  Calls Tryz.prog 206 #[v] w fun r w'=>((l= []/\∃a,r=.returned (.slice a 0 0))\/∃(g cap:Nat) (zs:List (Z w')),r=.returned (.slice (some ⟨g,0,none⟩) l.length cap)/\l≠ []/\zs.map Z.pa=l/\PB w' g (cap*2) (zs.map Z.el)/\w.heap.size<=g/\l.length<=cap/\cap<=maxLen)/\qw w w':=by
 obtain⟨a,c,rfl⟩:=h.shape;have hc:=h.len.2;have H:=qh h;have a1:∀(w:World) (a:Option Addr) (n c P I:Nat),(binOp .eql 115 (.slice a n c) (.slice none P I)).run Tryz.prog w=.ok (.bool a.isNone) w:=fun w a n c P I=>Lib.run_eql_slice_nil w _ _ a n c P I underlying115;clear h;rcases a with _ | ad
 ·have m:l= []:=by
   by_cases e:l= []
   · exact e
   ·obtain⟨x,A⟩:∃x,l[0]? =some x:=⟨_,List.getElem?_eq_getElem (List.length_pos_iff.2 e)⟩
    obtain⟨b,off,sv,J, -⟩:=H.o.at A;cases J
  subst m;go_enter func206,ntmps206;go_wp2;go_ret;exact⟨.inl ⟨trivial,_,rfl⟩,Below.refl _ _⟩
 ·have U:=qh (owns_made w 119 2)
  obtain⟨T,t,M,N,O⟩:=info_parts No;have p:=qb w (.cells #[] 119);by_cases h0:l.length=0
  ·have m:l= []:=List.eq_nil_of_length_eq_zero h0
   subst m;go_enter func206,ntmps206;go_wp2_with (first
    | (at_builtin
       refine Je _ rfl _ _ _ rfl 119 T underlying115 t (some ⟨w.heap.size,0,none⟩) 0 0 ql rfl _ _ rfl ?_))
   go_ret;exact⟨.inl ⟨trivial,_,rfl⟩,p⟩
  ·obtain⟨zs,q,A⟩:=(H.o.stays p).zs
   obtain⟨b,off,R,e,Q⟩:=A (by intro e;subst e;simp at h0);injection e with e1 e2 e3;injection e1 with e1;subst e1 e3;have D:=qh Q;have G:=qh q;have L:0<l.length:=by omega
   have u:Hid (zs.length=l.length):=by show _=_;rw[<- q,List.length_map]
   clear Q A q e2;go_enter func206,ntmps206;go_wp2_with (first
    | (at_builtin
       refine wpList_append_lies _ rfl _ _ _ rfl w.heap.size 119 T _ 2 32 underlying115 t M N O rfl (by omega) _ 0 [] rfl U.o ⟨b,off,none⟩ l.length _ (Gr (zs.map Z.el)) rfl (by rw[Mk,List.length_map,u.o]) D.o (Sr _) L (by unfold maxLen;omega) (by omega) (by simp) (w.heap.size+1) (by simp) ?_;intro W cap w2 i d K a0;have j:=qh i;have B:Hid (qw w w2):=p.grown d (by simp) (fun z hz=>by cases hz;exact ql);have C:=qh (Chg.grown d);clear i d K))
   go_ret;have E:NoSp (fun k=>some k=(Value.slice (some ⟨w.heap.size,0,none⟩) 0 0).ownBlock) (w.alloc (.cells #[] 119)):=fun b V fz e y=>by
    cases e
    rw[heap_alloc_new]at y;injection y with y;injection y with _ J _;exact absurd J (by decide)
   have S:=j.o;rw[Nat.zero_add,List.nil_append]at S;obtain⟨X,Y,h5,h6⟩:=PB.of_row S (by rw[List.length_map,u.o]);refine⟨.inr ⟨W,cap,zs.map (Z.chg C.o E),rfl,by intro e;subst e;simp at h0,?_,?_,Y,h5,h6⟩,B.o⟩
   ·rw[List.map_map]
    exact G.o
   ·rw[List.map_map]
    exact X
end ReMem
namespace ReMem
open Go Go.RowKit Go.Maps Go.WideMaps MatchMath
theorem strLaw:Keyed Tryz.prog 9:=string_keyed underlying9
def tooMany:Ending:=.panicked [{v:=.iface 184 (.agg #[]),recovered:=false}]
def PRes (w:World) (o:Option (List Parse)) (r:Ending) (w':World):Prop:=(match o with
 | none=>r=tooMany
 | some l=>∃v,r=.returned v/\PRow w' w.heap.size v l)/\qw w w'
def PFit (p:Parse):Prop:=p.2.length<=4096/\W64s p.2/\p.1<=4096
def Seen (D:DataW Unit) (l:List Parse):Prop:=IsMap D/\∀p:Parse,D.atKey (.string (Bl p)) (.lit (.bool false))=.lit (.bool (decide (p∈l)))
theorem Seen.nil:Seen (.map []) []:=⟨isMap_empty,fun _=>rfl⟩
theorem Seen.put {D:DataW Unit} {l:List Parse} (h:Seen D l) (p:Parse):Seen (D.put (.string (Bl p)) (.lit (.bool true))) (l++ [p]):=by
 refine⟨h.1.put _ _,fun y=>?_⟩;by_cases e:y=p
 ·subst e
  rw[atKey_put_same h.1 (show WideAt.IsKeyLit (.string (Bl y)) from trivial)];simp
 ·have a:(Lit.string (Bl y))≠ .string (Bl p):=by intro h;injection h with h;exact e (Tc h)
  rw[atKey_put_other a,h.2 y];simp[e]
theorem Seen.same {D:DataW Unit} {l:List Parse} (h:Seen D l) {p:Parse} (a:p∈l):Seen D (l++ [p]):=by
 refine⟨h.1,fun y=>?_⟩;rw[h.2 y]
 congr 2
 simp only[List.mem_append,List.mem_singleton,decide_eq_decide];exact⟨.inl,fun h=>h.elim id (fun e=>e▸a)⟩
theorem Ou:∀(l:List Span),W64s l->(blanks (flat l)).length<=44*l.length
 | [],_=>by simp[flat,blanks]
 |x::l,h=>by
  have h1:=Ou l fun y hy=>h y (by simp[hy]);obtain⟨⟨a,b⟩,⟨c,d⟩⟩:=h x (by simp);have g:=Kk x.1 a b;have i:=Kk x.2 c d;have e:blanks (flat (x::l))=(32::Lib.itoa x.1)++((32::Lib.itoa x.2)++blanks (flat l)):=by
   show blanks (x.1::x.2::flat l)=_;simp[blanks]
  rw[e];simp only[List.length_append,List.length_cons];omega
theorem key_of {p:Parse} (h:PFit p):keyOf Tryz.prog 9 (.string ⟨(Bl p).toArray⟩)=some (.string (Bl p)):=by
 have a:=Ou p.2 h.2.1;have b:=Kk (p.1:Int) (by omega) (by have:=h.2.2;omega);have c:=h.1;simpa using keyOf_string_mk (P:=Tryz.prog) underlying9 (s:=⟨(Bl p).toArray⟩) (by simp[ByteArray.size,Bl];unfold maxLen;omega)
theorem Tm {w:World} {base:Nat} {v:Value} {l:List Parse} (h:PRow w base v l) {H:Type} {P:Program} {k:TypeId} {R:Value->Option (DataW H×List MemPlace)} {b n:Nat} {D:DataW H} (m:w.ownsMap P k R b n D):v.ownBlock≠some b:=by
 intro e;obtain⟨t,q,hr,r⟩:=h;obtain⟨o,a,j, -⟩:=m;rcases hr.2 with ⟨rfl,_⟩ | ⟨g,d,i,fz,rfl,p,c,_⟩
 · cases e
 ·cases e
  rw[j]at c;cases c
theorem dd_step {l:List Parse} {q:Nat} {p:Parse} (h:l[q]? =some p):dd (l.take (q+1))=addU (dd (l.take q)) p:=by
 obtain⟨a,b⟩:=List.getElem?_eq_some_iff.1 h;rw[List.take_succ_eq_append_getElem a,b,dd_snoc]
theorem Wr (v:Value) (l:List Parse) (w:World) (h:PLies w v l) (hl:l.length<=1099511627776) (hf:∀p∈l,PFit p) (ht:Tabs w):
  Calls Tryz.prog 170 #[v] w (PRes w (lim (dd l))):=by
 obtain⟨a,c,rfl⟩:=h.shape;have r:=h.len.2;have H:=qh h;have HF:=qh hf;have HT:=qh ht;have e7:=qh strLaw;have e8:(l.length:Int)<=1099511627776:=by omega
 obtain⟨i0,hi,e4,e5,e6⟩:=info_parts No;clear h hf ht hl;have f0:=@run_makeMap Tryz.prog;go_enter func170,ntmps170;go_wp2
 go_loopw [4,11] (fun vo vq wr=>∃q:Nat,q<=l.length/\vq=.int .i64 (q:Int)/\PRow wr w.heap.size vo (dd (l.take q))/\(∃D n,n<=q/\wr.ownsMap Tryz.prog 9 (plainElem Tryz.prog 4) w.heap.size n D/\Hid (Seen D (l.take q)))/\qw w wr) (fun _ vq _=>l.length-(intOf vq).toNat)
 case atStart=>exact⟨0,Nat.zero_le _,rfl,PRow.nil _ _,⟨.map [],0,ql,World.ownsMap_made _ _ _ _,Seen.nil⟩,(Below.refl _ _).alloc ql _⟩
 case round=>
  obtain⟨q,hq,rfl,V,⟨D,n,hn,O,HD⟩,a9⟩:=hrel;have L:=qh V;have m:=qh O;have y:=qh a9;obtain⟨oa,oc,rfl⟩:=V.form;clear V O a9;by_cases hlt:q<l.length
  ·have e3:(q:Int)< (l.length:Int):=by omega
   obtain⟨p,hp⟩:∃p,l[q]? =some p:=⟨_,List.getElem?_eq_getElem hlt⟩;have a0:=qh (dd_step hp);have a7:Hid (l.take (q+1)=l.take q++ [p]):=by
    show _=_;obtain⟨Y,h2⟩:=List.getElem?_eq_some_iff.1 hp;rw[List.take_succ_eq_append_getElem Y,h2]
   have J:=qh (HF.o p (List.mem_of_getElem? hp));obtain⟨b,off,sv,rfl,y1,y2,X⟩:=(H.o.stays y.o).at hp;obtain⟨sa,sc,rfl⟩:=X.shape;have i:Hid (qw wr (wr.alloc (.cells #[.int .i64 (p.1:Int),.slice sa p.2.length sc] 119))):=(Below.refl _ _).alloc ql _;have a4:=qh X;have u:=qh (y.o.trans (i.o.mono y.o.size));have HK:=qh (key_any p (.slice sa p.2.length sc) (wr.alloc (.cells #[.int .i64 (p.1:Int),.slice sa p.2.length sc] 119)) (a4.o.stays i.o) J.o.1 J.o.2.1 J.o.2.2 (HT.o.stays u.o));have t:=qh (key_of J.o);have Q:=heap_alloc_new wr (.cells #[.int .i64 (p.1:Int),.slice sa p.2.length sc] 119);have N:=qh Q;obtain⟨K,hK⟩:∃K:ByteArray,(⟨(Bl p).toArray⟩:ByteArray)=K:=⟨_,rfl⟩;rw[hK]at HK t;clear hp X Q hK;by_cases hin:p∈l.take q
   ·have I:=qh hin
    have HB:Hid (∀c:Bool,D.atKey (.string (Bl p)) (.lit (.bool false))=.lit (.bool c)->c=true):=fun c r=>by
     rw[HD.out.2 p,decide_eq_true hin]at r;injection r with r;injection r with r;exact r.symm
    clear hin;go_wp2_with (first
     | (go_at_call 203
        (refine HK.o.mono ?_);rintro e1 w2 ⟨rfl,d⟩;have g:=qh d;have j:=Cq (Cq m.o (Chg.of (C:=fun _=>False) i.o) (fun h=>h)) (Chg.of (C:=fun _=>False) d) (fun h=>h);have x:=qh j;clear d j)
     | (at_lookup
        refine Da _ rfl _ _ 253 rfl 9 4 strLaw underlying253 underlying4 (zeroB _) w.heap.size n D rfl x.o _ _ rfl t.o ?_;intro c B;obtain rfl:=HB.o c B;clear B))
    go_roundw
    case rel=>exact⟨q+1,by omega,by go_num,by
     rw[a0.o,Uw (Pc.2 I.o)];exact (L.o.stays i.o).stays g.o,⟨D,n,by omega,x.o,by show Seen _ _;rw[a7.o];exact HD.out.same I.o⟩,u.o.trans (g.o.mono u.o.size)⟩
    case measure=>simp[intOf];omega
   ·have I:=qh hin
    have HB:Hid (∀c:Bool,D.atKey (.string (Bl p)) (.lit (.bool false))=.lit (.bool c)->c=false):=fun c r=>by
     rw[HD.out.2 p,decide_eq_false hin]at r;injection r with r;injection r with r;exact r.symm
    have M:Hid ((dd (l.take q)).length<=q):=by
     show _<=_;have Y:=Et (l.take q) [];have h2:(l.take q).length<=q:=by rw[List.length_take];omega
     simp only[List.length_nil]at Y;exact Nat.le_trans (show (dd (l.take q)).length<=_ from Y) (by omega)
    clear hin;go_wp2_with (first
     | (go_at_call 203
        (refine HK.o.mono ?_);rintro e1 w2 ⟨rfl,d⟩;have g:=qh d;have j:=Cq (Cq m.o (Chg.of (C:=fun _=>False) i.o) (fun h=>h)) (Chg.of (C:=fun _=>False) d) (fun h=>h);have x:=qh j;have b5:=(d.block _ (qd N.o)).trans N.o;have a3:=qh b5;clear d j b5)
     | (at_lookup
        refine Da _ rfl _ _ 253 rfl 9 4 strLaw underlying253 underlying4 (zeroB _) w.heap.size n D rfl x.o _ _ rfl t.o ?_;intro c B;obtain rfl:=HB.o c B;clear B)
     | (at_mapUpdate
        refine wpList_mapUpdate_own _ rfl _ _ _ 253 rfl 9 4 strLaw underlying253 (plainElem Tryz.prog 4) w.heap.size n D rfl x.o (by unfold maxLen;omega) _ _ (.string (Bl p)) rfl rfl t.o (.lit (.bool true)) [] (plainElem_bool underlying4 true) ?_;intro w3 b1 b0;have a1:=qh b1;have z:Hid (Chg (fun b=>b=w.heap.size) w2 w3):=(Chg.grown b0).mono (fun k _ e=>by cases e;rfl);have P:wr.heap.size≠w.heap.size:=by have:=Ws m.o;omega
        have W:=(z.o.block _ (qd a3.o) P).trans a3.o;have f1:w3.cell? ⟨wr.heap.size,0,none⟩=some (.int .i64 (p.1:Int)):=by rw[qc W];rfl
        have f2:w3.cell? ⟨wr.heap.size,1,none⟩=some (.slice sa p.2.length sc):=by rw[qc W];rfl
        have U:NoSp (fun b=>b=w.heap.size) w2:=fun b e9 fz e hg=>by
         subst e;obtain⟨es,e0,Y, -⟩:=x.o;rw[Y]at hg;cases hg
        have b3:PRow w3 w.heap.size (.slice oa (dd (l.take q)).length oc) (dd (l.take q)):=((L.o.stays i.o).stays g.o).chg z.o U (fun b hb e=>Tm L.o m.o (e▸hb));have T:=qh b3;have a5:=qh (((a4.o.stays i.o).stays g.o).chg z.o U);obtain⟨vs,b8,b6,b7⟩:=b3;have b9:=qh b6;have d9:=qh b8;have c9:=qh b7;have a6:Hid (w.heap.size<=w3.heap.size):=Nat.le_trans u.o.size (Nat.le_trans g.o.size z.o.size);have n1:(dd (l.take q)).length+1<=maxLen:=by have:=M.o;unfold maxLen;omega
        have n2:((dd (l.take q)).length+1)*32<=140737488355328:=by have:=M.o;omega
        clear b1 b0 W U b8 b6 b7 P)
     | (at_builtin
        refine Cu _ rfl _ _ 115 rfl w.heap.size 119 i0 (.agg #[.int .i64 0,.slice none 0 0]) 2 32 underlying115 hi e4 e5 e6 rfl (by decide) _ (dd (l.take q)).length (Dq (dd (l.take q)) vs) rfl b9.o [.int .i64 (p.1:Int),.slice sa p.2.length sc] rfl (by simp[Value.oneCell']) rfl n1 n2 a6.o ?_;intro v' w5 G E b2;have a2:=qh G;have S:=qh E;clear G E b2))
    go_roundw
    case rel=>
     have d:qw w w2:=u.o.trans (g.o.mono u.o.size);have a8:qw w w3:=d.trans (z.o.below d.size (fun k hk e=>by omega));have e2:qw w w5:=a8.trans (S.o.below a8.size (fun k hk e=>by have:=(T.o.lt k e.symm).1;omega));refine⟨q+1,by omega,by go_num,?_,⟨_,n+1,by omega,Cq a1.o S.o (fun e=>Tm T.o a1.o e.symm),by show Seen _ _;rw[a7.o];exact HD.out.put p⟩,e2⟩;rw[a0.o,show addU (dd (l.take q)) p=dd (l.take q)++ [p] from if_neg (fun e=>I.o (Pc.1 e))];exact PRow.more d9.o c9.o a5.o a2.o S.o T.o.noSp
    case measure=>simp[intOf];omega
  ·have b4:q=l.length:=by omega
   have e3:¬(q:Int)< (l.length:Int):=by omega
   have R:Hid (dd (l.take q)=dd l):=by show _=_;rw[b4,List.take_length]
   clear b4 HD;by_cases hm:4096< (dd (l.take q)).length
   ·have A:Hid (lim (dd l)=none):=by show _=_;unfold lim most;rw[<- R.o,if_pos hm]
    have j:(4096:Int)< ((dd (l.take q)).length:Int):=by omega
    go_wp2;refine⟨rfl,?_⟩;rw[A.o];exact⟨rfl,y.o⟩
   ·have A:Hid (lim (dd l)=some (dd l)):=by show _=_;unfold lim most;rw[<- R.o,if_neg hm]
    have j:¬(4096:Int)< ((dd (l.take q)).length:Int):=by omega
    go_wp2;go_ret;rw[A.o];exact⟨⟨_,rfl,by rw[<- R.o];exact L.o⟩,y.o⟩
end ReMem
namespace Quietly
open Go Go.RowKit
theorem worlds (a:World):∃(X:Type) (F:X->World),Nonempty X/\(∀x,Below a.heap.size a (F x))/\(∃x,a=F x)/\∀x w',Below (F x).heap.size (F x) w'->∃y,w'=F y:=
 ⟨{w // Below a.heap.size a w},Subtype.val,⟨⟨a,Below.refl _ _⟩⟩,fun x=>x.2,⟨⟨a,Below.refl _ _⟩,rfl⟩,fun x w' h=>⟨⟨w',x.2.trans (h.mono x.2.size)⟩,rfl⟩⟩
theorem region {P:Program} {X:Type} {F:X->World} {id:Nat} {Q:Exit->Act->World->Prop} {a:Act} {w:World} {l:List Oper} (d:P.follows .mixedOrders=true) (b:Region.lexB .any l.toArray=true)
  (e:∃x,w=F x) (c:∀x w',Below (F x).heap.size (F x) w'->∃y,w'=F y)
  (h:wpQuiet P l.toArray (fun w'=>∃x,w'=F x) (fun a'=>∀w',(∃x,w'=F x)->Q .normal a' w') l a):(Code.region id l.toArray true).wp P Q a w:=by
 refine wp_region_quiet (C:=fun w'=>∃x,w'=F x) d b ?_ (by simpa using h);obtain⟨x,rfl⟩:=e;exact c x _ (Below.refl _ _).drew
end Quietly
namespace ReMem
open Go Go.RowKit MatchMath SortMath
theorem Um (x y:El) (w:World) (a:0<=x.1/\x.1<=1048576) (b:0<=y.1/\y.1<=1048576):
  Calls Tryz.prog 208 #[.agg #[.int .i64 x.1,.slice x.2.1 x.2.2.1 x.2.2.2],.agg #[.int .i64 y.1,.slice y.2.1 y.2.2.1 y.2.2.2]] w fun r w'=>r=.returned (.int .i64 (y.1-x.1))/\qw w w':=by
 obtain⟨x,h,j,i⟩:=x;obtain⟨y,l,n,m⟩:=y;simp only at*;obtain⟨c,d⟩:=a;obtain⟨e,g⟩:=b;go_enter func208,ntmps208;go_wp2;go_ret;exact⟨rfl,((Below.refl _ w).alloc ql _).alloc (by simp) _⟩
theorem Vx {P:Program} {id:Nat} {Q:Exit->Act->World->Prop} {a:Act} {w:World} {l:List Oper} (i:P.follows .mixedOrders=true) (e:Region.lexB .any l.toArray=true)
  (h:∀(X:Type) (F:X->World),Nonempty X->(∀x,qw w (F x))->(∀x w',qw (F x) w'->∃y,w'=F y)->
    wpQuiet P l.toArray (fun w'=>∃x,w'=F x) (fun a'=>∀w',(∃x,w'=F x)->Q .normal a' w') l a):(Code.region id l.toArray true).wp P Q a w:=by
 obtain⟨X,F,g,b,c,d⟩:=Quietly.worlds w;exact Quietly.region i e c d (h X F g b d)
theorem swap_at {α:Type} (A D:List α) (x y:α):((A++y::x::D).set (A.length+1) y).set A.length x=A++x::y::D:=by
 rw[List.set_append_right _ _ (Nat.le_succ _),List.set_append_right _ _ ql,show A.length+1-A.length=1 by omega,Nat.sub_self];rfl
theorem st_at {α:Type} (P s T:List α) (x:α) (q:Nat) (a:q<=s.length):(P++(s.take q++x::(s.drop q++T)))[P.length+q]? =some x:=by
 rw[List.getElem?_append_right (by omega),List.getElem?_append_right (by rw[List.length_take];omega),List.length_take];rw[show P.length+q-P.length-min q s.length=0 by omega];rfl
theorem st_prev {α:Type} (P s T:List α) (x y:α) (q:Nat) (a:s[q]? =some y):(P++(s.take (q+1)++x::(s.drop (q+1)++T)))[P.length+q]? =some y:=by
 have b:=(List.getElem?_eq_some_iff.1 a).1;rw[List.getElem?_append_right (by omega),List.getElem?_append_left (by rw[List.length_take];omega),List.getElem?_take,if_pos (by omega)];rw[show P.length+q-P.length=q by omega];exact a
theorem st_swap {α:Type} (P s T:List α) (x y:α) (q:Nat) (d:s[q]? =some y):((P++(s.take (q+1)++x::(s.drop (q+1)++T))).set (P.length+(q+1)) y).set (P.length+q) x=P++(s.take q++x::(s.drop q++T)):=by
 obtain⟨a,rfl⟩:=List.getElem?_eq_some_iff.1 d;have b:s.take (q+1)=s.take q++ [s[q]]:=by rw[List.take_succ_eq_append_getElem a]
 have c:s.drop q=s[q]::s.drop (q+1):=List.drop_eq_getElem_cons a;have e:=swap_at (P++s.take q) (s.drop (q+1)++T) x s[q];have el:(P++s.take q).length=P.length+q:=by simp;omega
 rw[el]at e;rw[List.append_assoc,List.append_assoc]at e;rw[b,c,List.append_assoc];exact e
theorem insSort_any (g S c:Nat) (P M R:List El) (w:World) (hB:PB w g S (P++(M++R))) (hE:∀x∈P++(M++R),0<=x.1/\x.1<=1048576) (a7:(P++(M++R)).length<=1099511627776):
  Calls Tryz.prog 236 #[.slice (some ⟨g,0,none⟩) (P++(M++R)).length c,.int .i64 (P.length:Nat),.int .i64 (P.length+M.length:Nat),.func (.func 208) #[] #[]] w (BPost w g S (P++(isort gtE M++R))):=by
 obtain⟨n,hn⟩:∃n,(P++(M++R)).length=n:=⟨_,rfl⟩;obtain⟨a,ha⟩:∃a,P.length=a:=⟨_,rfl⟩;obtain⟨m,hm⟩:∃m,M.length=m:=⟨_,rfl⟩;obtain⟨N,O⟩:∃N,a+m=N:=⟨_,rfl⟩;have a8:a+m<=n:=by rw[<- hn,<-ha,<-hm];simp
 rw[hn]at a7;rw[hn,ha,hm,O];have A:=qh O;have HN:=qh hn;have HA:=qh ha;have T:=qh hm;have HB:=qh hB;have HE:=qh hE;clear hn ha hm hB hE O;have b6:(n:Int)<=1099511627776:=by omega
 have b9:(N:Int)<=(n:Int):=by have:=A.o;omega
 have b8:(a:Int)<=(N:Int):=by have:=A.o;omega
 clear a8;go_enter func236,ntmps236;go_wp2
 go_loopw [8] (fun i wr=>∃k I:Nat,i=.int .i64 (I:Int)/\Hid (I=a+k)/\1<=k/\(k<=m\/k=1)/\PB wr g S (P++(isort gtE (M.take k)++(M.drop k++R)))/\Chg (fun b=>b=g) w wr) (fun i _=>N-(intOf i).toNat)
 case atStart=>exact⟨1,a+1,by go_num,rfl,ql,.inr rfl,by rw[show isort gtE (M.take 1)=M.take 1 by cases M <;> rfl,<-List.append_assoc (M.take 1),List.take_append_drop];exact HB.o,Chg.of (Below.refl _ _)⟩
 case round=>
  obtain⟨k,I,rfl,L,c9,d9,B,r⟩:=hrel;have p:=qh B;have W:=qh r;clear B r;by_cases hlt:k<m
  ·have b1:(I:Int)< (N:Int):=by have:=L.out;have:=A.o;omega
   obtain⟨x,hx⟩:∃x,M[k]? =some x:=⟨_,List.getElem?_eq_getElem (by rw[T.o];exact hlt)⟩;have HX:=qh hx;obtain⟨s,U⟩:∃s,isort gtE (M.take k)=s:=⟨_,rfl⟩;have t:Hid (s.length=k):=by show _=_;rw[<- U,Cm,List.length_take,T.o];omega
   have b3:Hid (Srt gtE s):=by show Srt gtE s;rw[<- U];exact Gk Dy _
   have a1:Hid (isort gtE (M.take (k+1))=ins gtE x s):=by
    show _=_;rw[<- U,List.take_succ_eq_append_getElem (by rw[T.o];exact hlt)];have e:=(List.getElem?_eq_some_iff.1 HX.o).2;rw[e];exact Jl _ _ _
   have a3:Hid (P++(isort gtE (M.take k)++(M.drop k++R))=P++(s.take k++x::(s.drop k++(M.drop (k+1)++R)))):=by
    show _=_;rw[U,List.take_of_length_le (Nat.le_of_eq t.o),List.drop_eq_nil_of_le (Nat.le_of_eq t.o),List.nil_append];have e:=(List.getElem?_eq_some_iff.1 HX.o).2;rw[List.drop_eq_getElem_cons (by rw[T.o];exact hlt),e];rfl
   have HS:=qh U;clear hx U;have a2:Hid (PB wr g S (P++(s.take k++x::(s.drop k++(M.drop (k+1)++R))))):=by
    have:=p.o;rw[a3.o]at this;exact this
   clear p a3
   rename World=>wm
   go_wp2
   go_loopw [9] (fun j wr=>∃q J:Nat,j=.int .i64 (J:Int)/\Hid (J=a+q)/\q<=k/\(∀y∈s.drop q,gtE y x=true)/\PB wr g S (P++(s.take q++x::(s.drop q++(M.drop (k+1)++R))))/\Chg (fun b=>b=g) w wr) (fun j _=>(intOf j).toNat)
   case atStart=>exact⟨k,I,rfl,L,ql,(fun y V=>by rw[List.drop_eq_nil_of_le (Nat.le_of_eq t.o)]at V;cases V),a2.o,W.o⟩
   case round=>
    obtain⟨q,J,rfl,Q,e0,a4,B,r⟩:=hrel;have K:=qh a4;have p:=qh B;have E:=qh r;clear a4 B r;have b5:∀(P2:Prop),P2->P2:=fun _ h=>h;rcases q with _ | q
    ·obtain rfl:J=a:=by have:=Q.out;omega
     go_wp2;refine Vx (by kernel_rfl) (by kernel_rfl) ?_;intro X F hN d hF;repeat go_big_quiet_step (fail)
     refine wpQuiet_nil ?_;rintro _ ⟨z,rfl⟩;go_wp2;go_roundw
     case rel=>exact⟨k+1,I+1,by go_num,by show _=_;have:=L.out;omega,by omega,by omega,by
      have e:=ins_at (gt:=gtE) x 0 s (Nat.zero_le _) (by simp) (by simpa using K.o);have D:=p.o.stays (d z);rw[a1.o,e];simpa using D,E.o.then (Chg.of (d z))⟩
     case measure=>have:=L.out;simp[intOf];omega
    ·obtain⟨J,rfl⟩:∃J',J=J'+1:=⟨J-1,by have:=Q.out;omega⟩
     have C:Hid (J=a+q):=by show _=_;have:=Q.out;omega
     have b2:(a:Int)< (J:Int)+1:=by have:=Q.out;omega
     have b7:(J:Int)+1< (n:Int):=by have:=Q.out;have:=A.o;omega
     obtain⟨y,V⟩:∃y,s[q]? =some y:=⟨_,List.getElem?_eq_getElem (by rw[t.o];omega)⟩;have Y:Hid ((P++(s.take (q+1)++x::(s.drop (q+1)++(M.drop (k+1)++R))))[J+1]? =some x):=(by have e:=st_at P s (M.drop (k+1)++R) x (q+1) (by rw[t.o];omega);rw[HA.o]at e;rw[C.o];exact e);have a0:Hid ((P++(s.take (q+1)++x::(s.drop (q+1)++(M.drop (k+1)++R))))[J]? =some y):=(by have e:=st_prev P s (M.drop (k+1)++R) x y q V;rw[HA.o]at e;rw[C.o];exact e);obtain⟨d1,d2⟩:=p.o.at Y.o;obtain⟨d3,d4⟩:=p.o.at a0.o;have HY:=qh V;have a9:Hid (0<=x.1/\x.1<=1048576):=HE.o x (by have:=List.mem_of_getElem? HX.o;simp[this]);have b0:Hid (0<=y.1/\y.1<=1048576):=HE.o y (by
      have h1:=List.mem_of_getElem? HY.o;rw[<- HS.o]at h1;rcases Ge _ _ _ h1 with h2 | h2
      · cases h2
      · have:=List.mem_of_mem_take h2;simp[this])
     clear V;obtain⟨x,xa,xn,xc⟩:=x;obtain⟨y,ya,yn,yc⟩:=y;simp only at d1 d2 d3 d4;go_wp2;refine Vx (by kernel_rfl) (by kernel_rfl) ?_;intro X F hN d hF;have e1:∀z,(F z).cell? ⟨g,(J+1)*2,none⟩=some (.int .i64 x):=fun z=>upc (d z) d1;have D:∀z,(F z).cell? ⟨g,(J+1)*2+1,none⟩=some (.slice xa xn xc):=fun z=>upc (d z) d2;have e3:∀z,(F z).cell? ⟨g,J*2,none⟩=some (.int .i64 y):=fun z=>upc (d z) d3;have e4:∀z,(F z).cell? ⟨g,J*2+1,none⟩=some (.slice ya yn yc):=fun z=>upc (d z) d4;have HC:=qh (fun z=>Um (x,xa,xn,xc) (y,ya,yn,yc) (F z) (a9.o) (b0.o));simp only at HC;repeat go_big_quiet_step (first
      | (go_at_call 208
         (with_reducible refine (HC.o _).mono ?_);rintro e w1 ⟨rfl,b4⟩;exact⟨rfl,hF _ _ b4⟩))
     refine wpQuiet_nil ?_;rintro _ ⟨z,rfl⟩;have f1:=e1 z;have f2:=D z;have f3:=e3 z;have f4:=e4 z;have l:=qh (p.o.stays (d z));have G:=qh (E.o.then (Chg.of (d z)));clear e1 D e3 e4 d hF;generalize F z=wz at*;by_cases hxy:y-x<0
     ·have z1:=l.o.free ((J+1)*2)
      have z2:=l.o.free ((J+1)*2+1);have z3:=l.o.free (J*2);have z4:=l.o.free (J*2+1);go_wp2
      go_region
      all_goals
       go_wp2;go_roundw
       case rel=>exact⟨q,J,by go_num,C,by omega,by
          intro u hu;rw[List.drop_eq_getElem_cons (by rw[t.o];omega)]at hu;rcases List.mem_cons.1 hu with rfl | hu
          ·have e:=(List.getElem?_eq_some_iff.1 HY.o).2
           rw[e];simp[gtE];omega
          · exact K.o u hu,by
          have e:=(l.o.swap (J+1) J x xa xn xc y ya yn yc (List.getElem?_eq_some_iff.1 Y.o).1 (List.getElem?_eq_some_iff.1 a0.o).1).drew;have D:=st_swap P s (M.drop (k+1)++R) (x,xa,xn,xc) (y,ya,yn,yc) q HY.o;rw[HA.o,<-C.o,show a+(q+1)=J+1 from Q.out.symm]at D;rw[D]at e;exact e,G.o.then (Chg.swap _ _ _ _ _ _ _ _ _ _)⟩
       case measure=>simp[intOf]
     ·go_wp2
      go_roundw
      case rel=>exact⟨k+1,I+1,by go_num,by show _=_;have:=L.out;omega,by omega,by omega,by
       have e:=Lv Dy b3.o (x:=(x,xa,xn,xc)) (k:=q+1) (by rw[t.o];omega) (.inr ⟨(y,ya,yn,yc),HY.o,by simp[gtE];omega⟩) K.o;have D:=l.o;rw[a1.o,e];simpa using D,G.o⟩
      case measure=>have:=L.out;simp[intOf];omega
  ·have a5:Hid (M.take k=M):=by show _=_;exact List.take_of_length_le (by rw[T.o];omega)
   have a6:Hid (M.drop k= []):=by show _=_;exact List.drop_eq_nil_of_le (by rw[T.o];omega)
   have b1:¬(I:Int)< (N:Int):=by have:=L.out;have:=A.o;omega
   go_wp2;go_end0;refine⟨rfl,?_,W.o⟩;have e:=p.o;rw[a5.o,a6.o]at e;exact e
end ReMem
end Go.Proofs.YtjefcpjciogcjaaGreatDoor
