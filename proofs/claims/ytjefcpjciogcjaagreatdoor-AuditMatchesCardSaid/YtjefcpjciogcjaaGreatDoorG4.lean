/- Lemmas for the walk of the law, in 4 parts. No condition beyond what each states. -/
import Derived.Test.YtjefcpjciogcjaaGreatDoorG3
import Derived.Test.YtjefcpjciogcjaaGreatDoorG1
import Derived.Deep.QuietTactic
import Derived.BigQuiet
import Derived.Test.YtjefcpjciogcjaaGreatDoorG2
import Derived.Maps.Own
import Derived.Maps.OwnOps
import Derived.Maps.OwnSet
namespace Go.Proofs.YtjefcpjciogcjaaGreatDoor
set_option maxRecDepth 100000
set_option linter.unusedVariables false
set_option maxHeartbeats 8000000
open Tryz
namespace ReMem
open Go Go.RowKit MatchMath Strs
def Ev (most:Nat) (l:List Parse):Nat->List Parse
 | 0=> []
 | d+1=>Ev most l d++l.filter fun p=>p.1==most-d
theorem Vi (l:List Parse):∀(most:Nat),Ev most l (most+1)=Br most l:=by
 have a:∀(most d:Nat),d<=most->Ev most l (d+1)++(if d<most then Br (most-(d+1)) l else [])=Br most l:=by
  intro most d
  induction d with
  |zero=>
   intro _;show ([]++_)++_=_;rw[List.nil_append];cases most with
   | zero=>simp[Br]
   | succ m=>rw[if_pos (by omega),Br];rfl
  |succ d ih=>
   intro b;have h:=ih (by omega);rw[if_pos (by omega)]at h;rw[<- h,Ev,List.append_assoc]
   congr 1
   have e:most-(d+1)=(most-(d+1+1))+1\/most=d+1:=by omega
   rcases e with e | e
   · rw[if_pos (by omega),e,Br]
   ·subst e
    simp[Br]
 intro most;have:=a most most ql;rw[if_neg (by omega),List.append_nil]at this;exact this
theorem filter_step {l:List Parse} {q:Nat} {p:Parse} (f:Parse->Bool) (h:l[q]? =some p):(l.take (q+1)).filter f=(l.take q).filter f++(if f p=true then [p] else []):=by
 rw[Bt h,List.filter_append]
 congr 1
 by_cases hf:f p=true <;> simp[hf]
theorem Kw (l:List Parse) (most:Nat):∀d,d<=most+1->(Ev most l d).length+((l.filter fun p=>decide (p.1<most+1-d))).length<=l.length
 | 0,_=>by simp only[Ev,List.length_nil,Nat.zero_add];exact List.length_filter_le _ _
 |d+1,hd=>by
  have ih:=Kw l most d (by omega);rw[Ev,List.length_append];have e:∀m:List Parse,(m.filter fun p=>p.1==most-d).length+(m.filter fun p=>decide (p.1<most+1-(d+1))).length<=(m.filter fun p=>decide (p.1<most+1-d)).length:=by
   intro m
   induction m with
   | nil=>simp
   |cons x m ihm=>
    simp only[List.filter_cons];by_cases h1:x.1=most-d
    ·have c:(x.1==most-d)=true:=by simp[h1]
     have a:decide (x.1<most+1-(d+1))=false:=by simp;omega
     have b:decide (x.1<most+1-d)=true:=by simp;omega
     rw[c,a,b];simp only[if_true,List.length_cons,Bool.false_eq_true,if_false];omega
    ·have c:(x.1==most-d)=false:=by simp[h1]
     rw[c];by_cases h2:x.1<most+1-(d+1)
     ·have a:decide (x.1<most+1-(d+1))=true:=by simpa using h2
      have b:decide (x.1<most+1-d)=true:=by simp;omega
      rw[a,b];simp only[if_true,List.length_cons,Bool.false_eq_true,if_false];omega
     ·have a:decide (x.1<most+1-(d+1))=false:=by simp;omega
      have b:decide (x.1<most+1-d)=false:=by simp;omega
      rw[a,b];simp only[Bool.false_eq_true,if_false];exact ihm
  have:=e l;omega
theorem Yn (v:Value) (l:List Parse) (n:Nat) (w:World) (h:PLies w v l) (hn:n<=4096) (hl:l.length<=1000000):
  Calls Tryz.prog 174 #[v,.int .i64 n] w fun r w'=>(∃v',r=.returned v'/\PRow w' w.heap.size v' (Br n l))/\qw w w':=by
 obtain⟨i0,hi,a2,a3,a4⟩:=info_parts par_info;obtain⟨a,c,rfl⟩:=h.shape;have HL:=qh h;have b3:(n:Int)<=4096:=by omega
 have b2:(l.length:Int)<=1000000:=by omega
 have K:=qh (Vi l n);clear h;go_enter func174,ntmps174;go_wp2
 go_loopw [5,6] (fun v i wr=>∃(d:Nat) (rv:Value),d<=n+1/\i=.int .i64 ((n:Int)-(d:Int))/\rv=v/\PRow wr w.heap.size rv (Ev n l d)/\qw w wr) (fun _ i _=>(intOf i+1).toNat)
 case atStart=>exact⟨0,_,Nat.zero_le _,by simp,rfl,PRow.nil _ _,Below.refl _ _⟩
 case round=>
  obtain⟨d,rv,hd,rfl,rfl,g,E⟩:=hrel;have D:=qh g;have L:=qh E;have a8:=qh (Kw l n d hd);clear g E;by_cases hlt:d<=n
  ·have Y:0<=(n:Int)-(d:Int):=by omega
   have M:Hid ((n:Int)-(d:Int)=((n-d:Nat):Int)):=by show _=_;omega
   have a9:(n:Int)-(d:Int)<=4096:=by omega
   generalize hND:(n:Int)-(d:Int)=ND at*;have N:=qh hND;clear hND;go_wp2
   go_loopw [5,7] (fun v i R=>∃(q:Nat) (B:Value),q<=l.length/\i=.int .i64 q/\B=v/\PRow R w.heap.size B (Ev n l d++(l.take q).filter fun p=>p.1==n-d)/\qw w R) (fun _ i _=>l.length-(intOf i).toNat)
   case atStart=>exact⟨0,_,Nat.zero_le _,rfl,rfl,by rw[List.take_zero,List.filter_nil,List.append_nil];exact D.o,L.o⟩
   case round=>
    obtain⟨q,B,hq,rfl,rfl,g,E⟩:=hrel;have j:=qh g;have m:=qh E;clear g;by_cases hqt:q<l.length
    ·have a0:(q:Int)< (l.length:Int):=by omega
     have hz:l[q]? =some l[q]:=List.getElem?_eq_getElem hqt;obtain⟨b,off,b4,rfl,c1,c2,J⟩:=(HL.o.stays E).at hz;obtain⟨a5,a6,rfl⟩:=J.shape;have O:=qh J;have C:=qh (filter_step (fun p=>p.1==n-d) hz);have b1:=O.o.len.2;have x:((l.take (q+1)).filter fun p=>p.1==n-d).length<=(l.filter fun p=>p.1==n-d).length:=(List.take_sublist (q+1) l).filter _ |>.length_le;have A:(Ev n l d).length+(l.filter fun p=>p.1==n-d).length<=l.length:=by
      have h1:=Kw l n (d+1) (by omega);rw[Ev,List.length_append]at h1;omega
     clear E hz J;generalize l[q]=y at*;obtain⟨S,a7⟩:=y;simp only at*;by_cases he:S=n-d
     ·have t:=C.o
      rw[if_pos (by simp[he])]at t;have u:=qh t;obtain⟨vs,Q,g,P⟩:=j.o;have V:=qh g;have X:=qh Q;have W:=qh P;have U:=qh j.o.noSp;have a1:((S:Int)==ND)=true:=by have:=M.o;simp;omega
      have G:(Ev n l d++(l.take q).filter fun p=>p.1==n-d).length+1<=1000000:=by
       rw[List.length_append];rw[t,List.length_append,List.length_singleton]at x;omega
      have n1:(Ev n l d++(l.take q).filter fun p=>p.1==n-d).length+1<=maxLen:=by unfold maxLen;omega
      have n2:((Ev n l d++(l.take q).filter fun p=>p.1==n-d).length+1)*32<=140737488355328:=by omega
      clear t he g Q P x A G C
      go_wp2_with (at_builtin
                   refine Cu _ rfl _ _ 115 rfl w.heap.size 119 i0 (.agg #[.int .i64 0,.slice none 0 0]) 2 32 underlying115 hi a2 a3 a4 rfl (by decide) _ _ _ rfl V.o [.int .i64 S,.slice a5 a7.length a6] rfl (by simp[Value.oneCell']) rfl n1 n2 m.o.size ?_;intro v' w2 I z b0)
      go_roundw
      case rel=>exact⟨q+1,v',by omega,by go_num,rfl,by rw[u.o,<-List.append_assoc];exact PRow.more X.o W.o O.o I z U.o,m.o.trans (z.below m.o.size (fun k hk e=>by have:=(j.o.lt k e.symm).1;omega))⟩
      case measure=>simp[intOf];omega
     ·have t:=C.o
      rw[if_neg (by simp[he]),List.append_nil]at t;have u:=qh t;have a1:((S:Int)==ND)=false:=by have:=M.o;simp;omega
      clear t he x A C;go_wp2;go_roundw
      case rel=>exact⟨q+1,B,by omega,by go_num,rfl,by rw[u.o];exact j.o,m.o⟩
      case measure=>simp[intOf];omega
    ·have a0:¬(q:Int)< (l.length:Int):=by omega
     have HQ:Hid (q=l.length):=by show _=_;omega
     have T:Hid (Ev n l (d+1)=Ev n l d++l.filter fun p=>p.1==n-d):=by show _=_;rw[Ev]
     clear E;go_wp2;go_roundw
     case rel=>exact⟨d+1,B,by omega,by rw[<- N.o];congr 1;omega,rfl,by rw[T.o];have h:=j.o;rw[HQ.o,List.take_length]at h;exact h,m.o⟩
     case measure=>simp[intOf];omega
  ·have Y:(n:Int)-(d:Int)<0:=by omega
   have HD:Hid (d=n+1):=by show _=_;omega
   go_wp2;go_ret;exact⟨⟨_,rfl,by have h:=D.o;rw[HD.o,K.o]at h;exact h⟩,L.o⟩
end ReMem
namespace ReMem
open Go Go.RowKit MatchMath Strs
theorem at_some (s:ByteArray) {k:Nat} (h:k<s.size):s.data.toList[k]? =some s[k]:=by
 have a:k<s.data.toList.length:=by rw[Array.length_toList];exact h
 rw[List.getElem?_eq_getElem a];rfl
theorem Ce (s:ByteArray):s.data.toList.length=s.size:=by simp
def tx (s:ByteArray) (ln:Bool):Text:=⟨s.data.toList,ln⟩
theorem byte10 (s:ByteArray) {k:Nat} (h:k<s.size):((s.data.toList[k]?)==some 10)=(((s[k].toNat:Nat):Int)==10):=by
 rw[at_some s h,Bool.eq_iff_iff];simp only[beq_iff_eq,Option.some.injEq];constructor
 · intro e;rw[e];rfl
 ·intro e
  apply UInt8.toNat_inj.1;have:(10:UInt8).toNat=10:=rfl;omega
theorem refHolds_any (s:ByteArray) (a:Bool) (op:Int) (i:Nat) (w:World) (hi:i<=s.size) (j:s.size<=65536):
  Calls Tryz.prog 129 #[.agg #[.string s,.bool a],.int .i64 op,.int .i64 i] w fun r w'=>r=.returned (.bool (if op=7 then (tx s a).begins i else (tx s a).ends i))/\qw w w':=by
 have b:=qh (qb w (.cells #[.string s,.bool a] 153));have g:(s.size:Int)<=65536:=by omega
 by_cases ho:op=7
 ·subst ho
  rw[if_pos rfl];rcases i with _ | m
  ·have HR:Hid ((tx s a).begins 0=true):=by show _=_;simp[Text.begins]
   rw[HR.o];go_enter func129,ntmps129;go_wp2;go_ret;exact⟨rfl,b.o⟩
  ·have c:m<s.size:=by omega
   have d:(m:Int)< (s.size:Int):=by omega
   rw[show (((m+1:Nat)):Int)=(m:Int)+1 from by omega];have e:((m:Int)+1==0)=false:=by simp;omega
   cases a with
   |false=>
    have HR:Hid ((tx s false).begins (m+1)=false):=by show _=_;simp[Text.begins,tx]
    rw[HR.o];go_enter func129,ntmps129;go_wp2;go_ret;exact⟨rfl,b.o⟩
   |true=>
    have HR:Hid ((tx s true).begins (m+1)=(((s[m].toNat:Nat):Int)==10)):=by
     show _=_;rw[<- byte10 s c];simp[Text.begins,tx]
    rw[HR.o];go_enter func129,ntmps129;go_wp2;go_ret;exact⟨rfl,b.o⟩
 ·rw[if_neg ho]
  have h:(op==7)=false:=by simp[ho]
  clear ho;by_cases hie:i=s.size
  ·subst hie
   have HR:Hid ((tx s a).ends s.size=true):=by show _=_;simp[Text.ends,tx,Ce]
   rw[HR.o];go_enter func129,ntmps129;go_wp2;go_ret;exact⟨rfl,b.o⟩
  ·have c:i<s.size:=by omega
   have d:(i:Int)< (s.size:Int):=by omega
   have e:((i:Int)==(s.size:Int))=false:=by simp;omega
   clear hie;cases a with
   |false=>
    have HR:Hid ((tx s false).ends i=false):=by
     show _=_;have:(i==s.data.toList.length)=false:=by rw[Ce];simp;omega
     unfold Text.ends tx;simp only[this,Bool.false_and,Bool.or_false]
    rw[HR.o];go_enter func129,ntmps129;go_wp2;go_ret;exact⟨rfl,b.o⟩
   |true=>
    have HR:Hid ((tx s true).ends i=(((s[i].toNat:Nat):Int)==10)):=by
     show _=_;have:(i==s.data.toList.length)=false:=by rw[Ce];simp;omega
     rw[<- byte10 s c];unfold Text.ends tx;simp only[this,Bool.true_and,Bool.false_or]
    rw[HR.o];go_enter func129,ntmps129;go_wp2;go_ret;exact⟨rfl,b.o⟩
def Ex (s:ByteArray) (x:Span) (i:Nat):Bool:=decide (0<=x.1/\i+(x.2-x.1).toNat<=s.size/\(s.data.toList.drop x.1.toNat).take (x.2-x.1).toNat=(s.data.toList.drop i).take (x.2-x.1).toNat)
theorem Ld (s:ByteArray) (i n:Nat):(s.extract i (i+n)).data.toList=(s.data.toList.drop i).take n:=by
 simp[ByteArray.data_extract]
theorem refAgain_any (s:ByteArray) (t:Bool) (x:Span) (i:Nat) (w:World) (hi:i<=s.size) (D:s.size<=65536) (j:x=Cj\/(0<=x.1/\x.1<=x.2/\x.2<=(s.size:Int))):
  Calls Tryz.prog 130 #[.agg #[.string s,.bool t],.agg #[.int .i64 x.1,.int .i64 x.2],.int .i64 i] w fun r w'=>r=.returned (.bool (Ex s x i))/\qw w w':=by
 have B:(s.size:Int)<=65536:=by omega
 have z:(i:Int)<=(s.size:Int):=by omega
 obtain⟨C,l⟩:=x;have d:=qh ((qb w (.cells #[.string s,.bool t] 153)).alloc (by simp) (.cells #[.int .i64 C,.int .i64 l] 53));rcases j with j | ⟨e,m,u⟩
 ·injection j with e1 e2
  subst e1 e2;have HR:Hid (Ex s (-1, -1) i=false):=by show _=_;unfold Ex;simp
  rw[HR.o];go_enter func130,ntmps130;go_wp2
  go_quiet (fail)
  go_wp2;go_ret;exact⟨rfl,Base.Ba d.o _⟩
 ·obtain⟨a,rfl⟩:=Int.eq_ofNat_of_zero_le e
  obtain⟨n,A⟩:=Int.eq_ofNat_of_zero_le (show 0<=l-(a:Int) by omega);obtain rfl:l=(a:Int)+(n:Int):=by omega
  simp only at e m u;have c:(a:Int)+(n:Int)-(a:Int)=(n:Int):=by omega
  have b:=qh c;clear A e m;by_cases hfit:i+n<=s.size
  ·have g:(n:Int)<=(s.size:Int)-(i:Int):=by omega
   have p:∀W,(Instr.slice 9 (.string s) (some (.int .i64 (i:Int))) (some (.int .i64 ((i:Int)+(n:Int)))) none).run Tryz.prog W=.ok (.string (s.extract i (i+n))) W:=fun W=>run_slice_string W _ s .i64 .i64 _ _ underlying9 (by omega) (by omega) (by omega);have q:∀W,(Instr.slice 9 (.string s) (some (.int .i64 (a:Int))) (some (.int .i64 ((a:Int)+(n:Int)))) none).run Tryz.prog W=.ok (.string (s.extract a (a+n))) W:=fun W=>run_slice_string W _ s .i64 .i64 _ _ underlying9 (by omega) (by omega) (by omega);have HR:Hid (Ex s ((a:Int),(a:Int)+(n:Int)) i=((s.extract i (i+n)).toList==(s.extract a (a+n)).toList)):=by
    show _=_;unfold Ex;simp only;rw[b.o,Bool.eq_iff_iff,decide_eq_true_eq,beq_iff_eq,ByteArray.toList_eq,ByteArray.toList_eq,Ld,Ld];simp only[Int.toNat_natCast];exact⟨fun h=>h.2.2.symm,fun h=>⟨by omega,hfit,h.symm⟩⟩
   generalize Ex s ((a:Int),(a:Int)+(n:Int)) i=R at*;go_enter func130,ntmps130;go_wp2
   go_quiet (fail)
   go_wp2;go_ret;exact⟨by rw[HR.o];rfl,Base.Ba d.o _⟩
  ·have g:¬(n:Int)<=(s.size:Int)-(i:Int):=by omega
   have y:decide ((n:Int)<=(s.size:Int)-(i:Int))=false:=by simp;omega
   have HR:Hid (Ex s ((a:Int),(a:Int)+(n:Int)) i=false):=by
    show _=_;unfold Ex;simp only;rw[b.o,decide_eq_false_iff_not];simp only[Int.toNat_natCast];omega
   rw[HR.o];go_enter func130,ntmps130;go_wp2
   go_quiet (fail)
   go_wp2;go_ret;exact⟨rfl,Base.Ba d.o _⟩
def RRes (w:World) (o:Option (List Parse)) (r:Ending) (w':World):Prop:=(match o with
 | none=>r=.returned (.tuple #[.slice none 0 0,.bool false])
 | some l=>∃v,r=.returned (.tuple #[v,.bool true])/\PRow w' w.heap.size v l)/\qw w w'
theorem Jr (s:ByteArray) (q:Bool) (v:Value) (l:List Parse) (w:World) (u:s.size<=4096) (h:PLies w v l) (r:l.length<=1000000) (d:l.Nodup):
  Calls Tryz.prog 135 #[.agg #[.string s,.bool q],v] w (RRes w (done s.size l)):=by
 obtain⟨a,c,rfl⟩:=h.shape;have i:=qh (qb w (.cells #[.string s,.bool q] 153));have HS:=qh (fun W (hb:qw w W)=>Yn (.slice a l.length c) l s.size W (h.stays hb) u r);have b:=qh (So d);have t:(l.length:Int)<=1000000:=by omega
 clear h d;by_cases hbig:4096<l.length
 ·have HR:Hid (done s.size l=none):=by
   show _=_;unfold done lim;rw[b.o,if_pos (show most<l.length from hbig)];rfl
  rw[HR.o];have n:4096< (l.length:Int):=by omega
  go_enter func135,ntmps135;go_wp2;go_ret2;exact⟨rfl,i.o⟩
 ·have HR:Hid (done s.size l=some (Br s.size l)):=by
   show _=_;unfold done lim;rw[b.o,if_neg (show ¬most<l.length from hbig)];rfl
  rw[HR.o];have n:(l.length:Int)<=4096:=by omega
  go_enter func135,ntmps135
  go_wp2_with (go_at_call 174
               (refine (HS.o _ i.o).mono ?_);rintro e y ⟨⟨x,rfl,g⟩,p⟩;have m:=qh (g.mono i.o.size);have j:=qh (Ab i.o p);clear g)
  go_ret2;exact⟨⟨_,rfl,m.o⟩,j.o⟩
end ReMem
namespace ReMem
open Go Go.RowKit MatchMath Strs
def Int1 (w:World) (b:Nat) (z:Int):Prop:=w.heap[b]? =some (.cells #[.int .i64 z] 3 (0,0))
theorem Int1.cell {w:World} {b:Nat} {z:Int} (h:Int1 w b z):w.cell? ⟨b,0,none⟩=some (.int .i64 z)/\w.frozen? ⟨b,0,none⟩=false/\b<w.heap.size:=by
 refine⟨by rw[cell_of_row w b _ _ _ _ h];rfl,?_,(qd h)⟩;unfold Int1 at h;simp[World.frozen?,h]
theorem Int1.set {w:World} {b:Nat} {z:Int} (h:Int1 w b z) (y:Int):Int1 (w.setCell ⟨b,0,none⟩ (.int .i64 y)) b y:=by
 unfold Int1 at*;rw[setCell_eq_setRow w b 0 _ _ _ _ h];simpa using setRow_heap w b _ _ _ _ h
theorem Int1.chg {C:Nat->Prop} {w a:World} {b:Nat} {z:Int} (h:Int1 w b z) (d:Chg C w a) (c:¬C b):Int1 a b z:=(d.block b h.cell.2.2 c).trans h
theorem Int1.cast {w:World} {b:Nat} {z y:Int} (h:Int1 w b z) (e:z=y):Int1 w b y:=e▸h
def eqN (o k:Int):Nat:=if o=k then 1 else 0
theorem eqN_le (o k:Int):eqN o k<=1:=by unfold eqN;split <;> omega
theorem Lies.shape {w:World} {v:Value} {b:List Re} (h:Lies w v b):∃a c,v=.slice a b.length c:=by
 obtain⟨a,c,d,rfl, -⟩:=h.form;exact⟨a,c,rfl⟩
theorem countFn_any (k:Int) (c:k≠0) (v:Value) (e:Re) (m a N:Nat) (w:World) (n:Int1 w m k) (d:Int1 w a N) (z:N<=4096):
  Calls Tryz.prog 119 #[Ac v e,.pointer (some ⟨m,0,none⟩),.pointer (some ⟨a,0,none⟩)] w fun r w'=>r=.returned (.tuple #[])/\Int1 w' a ((N+eqN e.op k:Nat):Int)/\Chg (fun b=>b=a) w w':=by
 unfold Ac;generalize e.op=o at*;generalize e.lo=l at*;generalize e.hi=h at*;generalize e.group=g at*;generalize Sets.Aa e.set 0=x0 at*;generalize Sets.Aa e.set 1=x1 at*;generalize Sets.Aa e.set 2=x2 at*;generalize Sets.Aa e.set 3=x3 at*;obtain⟨C,D,E⟩:=n.cell;obtain⟨n1,A,B⟩:=d.cell;have q:=qh d;have p:Hid (Chg (fun b=>b=a) w (w.alloc (.cells #[.int .i64 o,.int .u64 x0,.int .u64 x1,.int .u64 x2,.int .u64 x3,.int .i64 l,.int .i64 h,.int .i64 g,v] 28))):=Chg.alloc _ _ _;have i:Hid (Int1 (w.alloc (.cells #[.int .i64 o,.int .u64 x0,.int .u64 x1,.int .u64 x2,.int .u64 x3,.int .i64 l,.int .i64 h,.int .i64 g,v] 28)) a N):=(d.chg (Chg.alloc (fun _=>False) _ _) (fun h=>h));have t:(N:Int)<=4096:=by omega
 have u:0<=(N:Int):=by omega
 have y:(k==0)=false:=by simp[c]
 clear n d c;by_cases he:o=k
 ·subst he
  have j:eqN o o=1:=if_pos rfl;rw[j];go_enter func119,ntmps119;go_wp2;go_end0;exact⟨rfl,((q.o.set ((N:Int)+1)).chg (Chg.alloc (fun _=>False) _ _) (fun h=>h)).cast (by omega),(Chg.setCell _ _ _ _).trans (Chg.alloc (fun _=>False) _ _) (fun k _ c=>c.elim)⟩
 ·have j:eqN o k=0:=if_neg he
  rw[j];have x:(o==k)=false:=by simp[he]
  go_enter func119,ntmps119;go_wp2;go_end0;exact⟨rfl,i.o,p.o⟩
theorem walk_any (k:Int) (y:k≠0) (P:World) (D m:Nat) (b6:P.heap.size<=D) (b5:P.heap.size<=m) (X:D≠m):∀(n:Nat) (e:Re) (v:Value) (N:Nat) (w:World),size e<n->N+size e<=4096->Ag e->Lies P v e.args->qw P w->Int1 w D k->Int1 w m N->
  Calls Tryz.prog 118 #[Ac v e,.func (.func 119) #[] #[.pointer (some ⟨D,0,none⟩),.pointer (some ⟨m,0,none⟩)]] w fun r w'=>r=.returned (.tuple #[])/\Int1 w' m ((N+Af k e:Nat):Int)/\Chg (fun b=>b=m) w w':=by
 intro n
 induction n with
 | zero=>intro e v N w hn;omega
 |succ n ih=>
  intro e v N w hn hs S hl Y u j;have HF:=qh (fun W (h1:Int1 W D k) (h2:Int1 W m N)=>countFn_any k y v e D m N W h1 h2 (by omega));obtain⟨o,p,l,h,g,args⟩:=e;obtain⟨a,c,vs,rfl,⟨a8,a7⟩,ho⟩:=hl.opened;have IH:=qh (fun t v N W (I:t∈args)=>ih t v N W (Nat.lt_of_lt_of_le (Bo (e:=.mk o p l h g args) I) (Nat.le_of_lt_succ hn)));clear ih hn hl y;have HT:Hid (Af k (.mk o p l h g args)=eqN o k+Ai k args):=by show _=_;rw[Af];rfl
  have b8:N+1+sizes args<=4096:=by rw[size]at hs;omega
  unfold Ac at HF ⊢;simp only[Re.op,Re.set,Re.lo,Re.hi,Re.group,Re.args]at*;have b4:args.length<=9223372036854775807:=Nat.le_trans a8 a7;have HO:=qh ho;have O:=qh Y;clear ho hs S Y;generalize Af k (.mk o p l h g args)=R at*;generalize Sets.Aa p 0=x0 at*;generalize Sets.Aa p 1=x1 at*;generalize Sets.Aa p 2=x2 at*;generalize Sets.Aa p 3=x3 at*;have b7:=eqN_le o k;generalize eqN o k=d at*;have HA:Hid (Chg (fun b=>b=m) w (w.alloc (.cells #[.int .i64 o,.int .u64 x0,.int .u64 x1,.int .u64 x2,.int .u64 x3,.int .i64 l,.int .i64 h,.int .i64 g,.slice a args.length c] 28))):=Chg.alloc _ _ _;have HX:=qh (Box9.new w o x0 x1 x2 x3 l h g (.slice a args.length c) 28);have K:=qh (u.chg (Chg.alloc (fun _=>False) w (.cells #[.int .i64 o,.int .u64 x0,.int .u64 x1,.int .u64 x2,.int .u64 x3,.int .i64 l,.int .i64 h,.int .i64 g,.slice a args.length c] 28)) (fun h=>h));have a2:=qh (j.chg (Chg.alloc (fun _=>False) w (.cells #[.int .i64 o,.int .u64 x0,.int .u64 x1,.int .u64 x2,.int .u64 x3,.int .i64 l,.int .i64 h,.int .i64 g,.slice a args.length c] 28)) (fun h=>h));have b3:=j.cell.2.2;clear u j;go_enter func118,ntmps118
  go_wp2_with (go_at_call 119
               (refine (HF.o _ K.o a2.o).mono ?_);rintro e1 w1 ⟨rfl,U,x⟩;have a3:=qh U;have a0:=qh (HA.o.trans x (fun k _ y=>y));have L:=qh (K.o.chg x X);have a6:=qh (HX.o.chg x (by omega));obtain⟨d0,d1,d2,d3,d4,d5,d6,d7,d8,d9⟩:=a6.o;clear U x)
  go_loopw [12] (fun i wr=>∃q:Nat,q<=args.length/\i=.int .i64 q/\Int1 wr m ((N+d+Ai k (args.take q):Nat):Int)/\Int1 wr D k/\Chg (fun b=>b=m) w wr) (fun i _=>args.length-(intOf i).toNat)
  case atStart=>exact⟨0,Nat.zero_le _,rfl,by rw[List.take_zero,Ai,Nat.add_zero];exact a3.o,L.o,a0.o⟩
  case round=>
   obtain⟨q,hq,rfl,j,u,hc⟩:=hrel;have z:=qh j;have A:=qh u;have HC:=qh hc;have C:=qh (O.o.trans (hc.below (B:=P.heap.size) O.o.size (fun k y e=>by omega)));clear j u hc;by_cases hlt:q<args.length
   ·obtain⟨t,v,b,off,I,hv,rfl,⟨k0,k1,k2,k3,k4,k5,k6,k7,k8⟩, -,T,hm⟩:=(HO.o.stays C.o).at hlt
    have G:=HO.o.sub q t v I hv;have a9:(q:Int)< (args.length:Int):=by omega
    have b0:=Ch I;have b1:=Cz args (q+1);have b2:=By k (args.take q);have J:=qh (fun W=>IH.o t v (N+d+Ai k (args.take q)) W hm (by omega) T G);have a5:Hid (N+d+Ai k (args.take q)+Af k t=N+d+Ai k (args.take (q+1))):=by show _=_;rw[Ec (k:=k) I,Nat.add_assoc]
    unfold Ac at J;obtain⟨va,vc,rfl⟩:=G.shape;clear I hv T G hm b0 b1 b2
    go_wp2_with (go_at_call 118
                 (refine (J.o _ (C.o.alloc C.o.size _) (A.o.chg (Chg.alloc (fun _=>False) _ _) (fun h=>h)) (z.o.chg (Chg.alloc (fun _=>False) _ _) (fun h=>h))).mono ?_);rintro e3 w3 ⟨rfl,V,E⟩;have a4:=qh V;have a1:=qh (HC.o.trans ((Chg.alloc (fun b=>b=m) wr _).trans E (fun k _ y=>y)) (fun k _ y=>y));have M:=qh ((A.o.chg (Chg.alloc (fun _=>False) _ _) (fun h=>h)).chg E X);clear V E)
    go_roundw
    case rel=>exact⟨q+1,by omega,by go_num,a4.o.cast (by rw[a5.o]),M.o,a1.o⟩
    case measure=>simp[intOf];omega
   ·have a9:¬(q:Int)< (args.length:Int):=by omega
    have Q:q=args.length:=by omega
    have HQ:=qh Q;clear Q;go_wp2;go_end0;exact⟨rfl,z.o.cast (by have h1:=HT.o;rw[HQ.o,List.take_length];omega),HC.o⟩
theorem Int1.two (w:World) (A:Obj) (k z:Int):Int1 (((w.alloc A).alloc (.cells #[.int .i64 k] 3)).alloc (.cells #[.int .i64 z] 3)) (w.heap.size+1) k/\Int1 (((w.alloc A).alloc (.cells #[.int .i64 k] 3)).alloc (.cells #[.int .i64 z] 3)) (w.heap.size+1+1) z:=by
 have b:Int1 ((w.alloc A).alloc (.cells #[.int .i64 k] 3)) (w.heap.size+1) k:=by
  have:=heap_alloc_new (w.alloc A) (.cells #[.int .i64 k] 3);rw[show (w.alloc A).heap.size=w.heap.size+1 from by simp]at this;exact this
 have a:=heap_alloc_new ((w.alloc A).alloc (.cells #[.int .i64 k] 3)) (.cells #[.int .i64 z] 3);rw[show ((w.alloc A).alloc (.cells #[.int .i64 k] 3)).heap.size=w.heap.size+1+1 from by simp]at a;exact⟨b.chg (Chg.alloc (fun _=>False) _ _) (fun h=>h),a⟩
theorem Sn (k:Int) (m:k≠0) (e:Re) (v:Value) (w:World) (t:size e<=4000) (a:Ag e) (i:Lies w v e.args):
  Calls Tryz.prog 80 #[Ac v e,.int .i64 k] w fun r w'=>r=.returned (.int .i64 (Af k e:Nat))/\qw w w':=by
 have j:=qh (fun W u n p=>walk_any k m w (w.heap.size+1) (w.heap.size+1+1) (by omega) (by omega) (by omega) (size e+1) e v 0 W (Nat.lt_succ_self _) (by omega) a i u n p);unfold Ac at j ⊢;obtain⟨A,C,rfl⟩:=i.shape;clear a i t;generalize e.op=o at*;generalize e.lo=l at*;generalize e.hi=h at*;generalize e.group=g at*;generalize Sets.Aa e.set 0=x0 at*;generalize Sets.Aa e.set 1=x1 at*;generalize Sets.Aa e.set 2=x2 at*;generalize Sets.Aa e.set 3=x3 at*;have q:∀(fn:Fn) (first cap:Array Value) (w:World),(Instr.makeFunc fn first cap).run Tryz.prog w=.ok (.func fn first cap) w:=fun _ _ _ _=>rfl
 go_enter func80,ntmps80
 go_wp2_with (go_at_call 118
              (refine (j.o _ ((((Below.refl _ w).alloc ql _).alloc (by simp) _).alloc (by simp;omega) _) (Int1.two _ _ _ _).1 (Int1.two _ _ _ _).2).mono ?_);rintro x D ⟨rfl,c,b⟩;obtain⟨n1,y,z⟩:=c.cell;have d:=qh (((((Below.refl _ w).alloc ql _).alloc (by simp) _).alloc (by simp;omega) _).trans (b.below (B:=w.heap.size) (by simp;omega) (fun k m e=>by omega)));clear c b)
 go_ret;exact⟨rfl,d.o⟩
theorem Eg (e:Re) (v:Value) (w:World) (j:size e<=4000) (a:Ag e) (d:Lies w v e.args):
  Calls Tryz.prog 57 #[Ac v e] w fun r w'=>r=.returned (.int .i64 (Af 6 e:Nat))/\qw w w':=by
 have i:=qh (fun W m=>Sn 6 (by decide) e v W j a (d.stays m));unfold Ac at i ⊢;obtain⟨p,q,rfl⟩:=d.shape;clear a d j;generalize e.op=o at*;generalize e.lo=l at*;generalize e.hi=h at*;generalize e.group=g at*;generalize Sets.Aa e.set 0=x0 at*;generalize Sets.Aa e.set 1=x1 at*;generalize Sets.Aa e.set 2=x2 at*;generalize Sets.Aa e.set 3=x3 at*;go_enter func57,ntmps57
 go_wp2_with (go_at_call 80
              (refine (i.o _ ((Below.refl _ w).alloc ql _)).mono ?_);rintro n t ⟨rfl,c⟩;have b:=qh (Ab ((Below.refl _ w).alloc ql _) c))
 go_ret;exact⟨rfl,b.o⟩
theorem Kf (e:Re) (v:Value) (w:World) (m:size e<=4000) (a:Ag e) (i:Lies w v e.args):
  Calls Tryz.prog 58 #[Ac v e] w fun r w'=>r=.returned (.bool (decide (0<Af 9 e)))/\qw w w':=by
 have j:=qh (fun W p=>Sn 9 (by decide) e v W m a (i.stays p));unfold Ac at j ⊢;obtain⟨t,u,rfl⟩:=i.shape;have d:=Ip 9 e;have n:((Af 9 e:Nat):Int)<=4096:=by omega
 clear a i m d;generalize e.op=o at*;generalize e.lo=l at*;generalize e.hi=h at*;generalize e.group=g at*;generalize Sets.Aa e.set 0=x0 at*;generalize Sets.Aa e.set 1=x1 at*;generalize Sets.Aa e.set 2=x2 at*;generalize Sets.Aa e.set 3=x3 at*;go_enter func58,ntmps58
 go_wp2_with (go_at_call 80
              (refine (j.o _ ((Below.refl _ w).alloc ql _)).mono ?_);rintro q x ⟨rfl,c⟩;have b:=qh (Ab ((Below.refl _ w).alloc ql _) c))
 go_ret;exact⟨by simp,b.o⟩
end ReMem
namespace ReMem
open Go Go.RowKit Go.Maps Go.WideMaps MatchMath
theorem intLaw:Keyed Tryz.prog 3:=int_keyed underlying3
theorem zeroB (w:World):(zeroValue 4).run Tryz.prog w=.ok (.bool false) w:=by kernel_rfl
theorem Iw {H:Type} {P:Program} {e:TypeId} (b:P.underlying e=some .bool) {v:Value} {z:DataW H×List MemPlace} (h:plainElem P e v=some z):∃a,v=.bool a/\z=(.lit (.bool a),[]):=by
 unfold plainElem at h;rw[b]at h;cases v <;> simp at h
 subst h;exact⟨_,rfl,rfl⟩
theorem Da {H:Type} {P:Program} (w:World) {ops:Array Oper} {d:List Oper} {o:Oper} {a:Act} {Q:Exit->Act->World->Prop}
  (z:o.guard=none) (m x:Operand) (t:TypeId) (p:o.op=Op.lookup t m x false)
  (k e:TypeId) (K:Keyed P k) (B:P.underlying t=some (.map k e)) (r:P.underlying e=some .bool) (G:(zeroValue e).run P w=.ok (.bool false) w) (b n:Nat) (D:DataW H)
  (A:a.eval m=.map (some b)) (h:w.ownsMap P k (plainElem P e) b n D) (j:Value) (u:Lit) (E:a.eval x=j) (g:keyOf P k j=some u)
  (y:∀c:Bool,D.atKey u (.lit (.bool false))=.lit (.bool c)->wpList P ops Q d (a.put o.dst (.bool c)) w):
  wpList P ops Q (o::d) a w:=by
 refine wpList_plain z fun I l=>?_;obtain⟨v,J,i,C⟩:=h.lookup K B G (plainElem_bool r false) g;obtain⟨c,rfl,q⟩:=Iw r C;simp only[Prod.mk.injEq]at q;unfold Oper.wp;simp[execOp,p,A,E,i,Result.andThen];exact l _ _ (y c q.1)
def Cl (D:DataW Unit) (cl:List Int):Prop:=IsMap D/\∀g:Int,D.atKey (.int .i64 g) (.lit (.bool false))=.lit (.bool (cl.contains g))
theorem Cl.nil:Cl (.map []) []:=⟨isMap_empty,fun _=>rfl⟩
theorem Cl.put {D:DataW Unit} {b:List Int} (h:Cl D b) (g:Int):Cl (D.put (.int .i64 g) (.lit (.bool true))) (b++ [g]):=by
 refine⟨h.1.put _ _,fun y=>?_⟩;by_cases e:y=g
 ·subst e
  rw[atKey_put_same h.1 (show WideAt.IsKeyLit (.int .i64 y) from trivial)];simp
 ·have a:(Lit.int .i64 y)≠ .int .i64 g:=by intro h;injection h with _ h;exact e h
  rw[atKey_put_other a,h.2 y];simp[e]
def Ho (w:World) (mb n:Nat) (cl:List Int):Prop:=∃D,w.ownsMap Tryz.prog 3 (plainElem Tryz.prog 4) mb n D/\Cl D cl
theorem Cq {H:Type} {C:Nat->Prop} {w d:World} {P:Program} {k:TypeId} {R:Value->Option (DataW H×List MemPlace)} {b n:Nat} {D:DataW H} (h:w.ownsMap P k R b n D) (i:Chg C w d) (g:¬C b):d.ownsMap P k R b n D:=by
 obtain⟨e,a,c,r⟩:=h;exact⟨e,a,(i.block b (qd c) g).trans c,r⟩
theorem Ho.chg {C:Nat->Prop} {w c:World} {a n:Nat} {b:List Int} (h:Ho w a n b) (i:Chg C w c) (g:¬C a):Ho c a n b:=by
 obtain⟨D,d,e⟩:=h;exact⟨D,Cq d i g,e⟩
theorem Ws {H:Type} {w:World} {P:Program} {k:TypeId} {R:Value->Option (DataW H×List MemPlace)} {b n:Nat} {D:DataW H} (h:w.ownsMap P k R b n D):b<w.heap.size:=by
 obtain⟨d,a,c,r⟩:=h;exact (qd c)
structure Chk (w:World) (cb mb:Nat) (sh bo na:Bool) (nd gr:Int):Prop where
 c0:w.cell? ⟨cb,0,none⟩=some (.bool sh)
 c1:w.cell? ⟨cb,1,none⟩=some (.bool bo)
 c2:w.cell? ⟨cb,2,none⟩=some (.bool na)
 c3:w.cell? ⟨cb,3,none⟩=some (.int .i64 nd)
 c4:w.cell? ⟨cb,4,none⟩=some (.int .i64 gr)
 c6:w.cell? ⟨cb,6,none⟩=some (.map (some mb))
 fz:∀j,w.frozen? ⟨cb,j,none⟩=false
 lt:cb<w.heap.size
theorem Chk.chg {C:Nat->Prop} {w i:World} {cb d:Nat} {g b e:Bool} {nd c:Int} (q:Chk w cb d g b e nd c) (h:Chg C w i) (a:¬C cb):Chk i cb d g b e nd c:=
 ⟨h.cell q.c0 a,h.cell q.c1 a,h.cell q.c2 a,h.cell q.c3 a,h.cell q.c4 a,h.cell q.c6 a,fun j=>by rw[World.frozen?_of_block (h.block cb q.lt a)];exact q.fz j,Nat.lt_of_lt_of_le q.lt h.size⟩
theorem Chk.cast {w:World} {cb c:Nat} {e a d sh' bo' na':Bool} {nd b nd' gr':Int} (q:Chk w cb c e a d nd b) (g:e=sh') (h:a=bo') (i:d=na') (j:nd=nd') (l:b=gr'):Chk w cb c sh' bo' na' nd' gr':=by
 subst g h i j l;exact q
theorem Aq {w:World} {p:Addr} {u v:Value} (h:w.cell? p=some u):(w.setCell p v).cell? p=some v:=World.cell?_setCell_same' w p v (by rw[h];rfl)
theorem Ad {w:World} {p a:Addr} {v:Value} (h:p≠a):(w.setCell p v).cell? a=w.cell? a:=World.cell?_setCell_other w p a v h
section
variable {w:World} {cb mb:Nat} {sh bo na:Bool} {nd gr:Int}
theorem Chk.set0 (q:Chk w cb mb sh bo na nd gr) (x:Bool):Chk (w.setCell ⟨cb,0,none⟩ (.bool x)) cb mb x bo na nd gr:=
 ⟨Aq q.c0,by rw[Ad (by simp)];exact q.c1,by rw[Ad (by simp)];exact q.c2,by rw[Ad (by simp)];exact q.c3,by rw[Ad (by simp)];exact q.c4,by rw[Ad (by simp)];exact q.c6,fun j=>by rw[World.frozen?_setCell];exact q.fz j,by simpa using q.lt⟩
theorem Chk.set1 (q:Chk w cb mb sh bo na nd gr) (x:Bool):Chk (w.setCell ⟨cb,1,none⟩ (.bool x)) cb mb sh x na nd gr:=
 ⟨by rw[Ad (by simp)];exact q.c0,Aq q.c1,by rw[Ad (by simp)];exact q.c2,by rw[Ad (by simp)];exact q.c3,by rw[Ad (by simp)];exact q.c4,by rw[Ad (by simp)];exact q.c6,fun j=>by rw[World.frozen?_setCell];exact q.fz j,by simpa using q.lt⟩
theorem Chk.set2 (q:Chk w cb mb sh bo na nd gr) (x:Bool):Chk (w.setCell ⟨cb,2,none⟩ (.bool x)) cb mb sh bo x nd gr:=
 ⟨by rw[Ad (by simp)];exact q.c0,by rw[Ad (by simp)];exact q.c1,Aq q.c2,by rw[Ad (by simp)];exact q.c3,by rw[Ad (by simp)];exact q.c4,by rw[Ad (by simp)];exact q.c6,fun j=>by rw[World.frozen?_setCell];exact q.fz j,by simpa using q.lt⟩
theorem Chk.set3 (q:Chk w cb mb sh bo na nd gr) (x:Int):Chk (w.setCell ⟨cb,3,none⟩ (.int .i64 x)) cb mb sh bo na x gr:=
 ⟨by rw[Ad (by simp)];exact q.c0,by rw[Ad (by simp)];exact q.c1,by rw[Ad (by simp)];exact q.c2,Aq q.c3,by rw[Ad (by simp)];exact q.c4,by rw[Ad (by simp)];exact q.c6,fun j=>by rw[World.frozen?_setCell];exact q.fz j,by simpa using q.lt⟩
theorem Chk.set4 (q:Chk w cb mb sh bo na nd gr) (x:Int):Chk (w.setCell ⟨cb,4,none⟩ (.int .i64 x)) cb mb sh bo na nd x:=
 ⟨by rw[Ad (by simp)];exact q.c0,by rw[Ad (by simp)];exact q.c1,by rw[Ad (by simp)];exact q.c2,by rw[Ad (by simp)];exact q.c3,Aq q.c4,by rw[Ad (by simp)];exact q.c6,fun j=>by rw[World.frozen?_setCell];exact q.fz j,by simpa using q.lt⟩
end
theorem Chg.set {w a:World} {cb:Nat} (C:Nat->Prop) (h:Chg C w a) (b:C cb) (j:Nat) (v:Value):Chg C w (a.setCell ⟨cb,j,none⟩ v):=h.trans (Chg.setCell _ _ _ _) (fun k _ e=>e▸b)
theorem Box9.newS (w:World) (b:Nat) (o:Int) (a c d e:Nat) (l h g:Int) (v:Value) (t:TypeId) (i:w.heap.size=b):
  Box9 (w.alloc (.cells #[.int .i64 o,.int .u64 a,.int .u64 c,.int .u64 d,.int .u64 e,.int .i64 l,.int .i64 h,.int .i64 g,v] t)) b o a c d e l h g v:=by
 subst i;exact Box9.new w o a c d e l h g v t
theorem Chk.drew {w:World} {cb c:Nat} {e a d:Bool} {nd b:Int} (q:Chk w cb c e a d nd b):Chk w.drew cb c e a d nd b:=⟨q.c0,q.c1,q.c2,q.c3,q.c4,q.c6,q.fz,q.lt⟩
theorem Chg.drew {C:Nat->Prop} {w a:World} (h:Chg C w a):Chg C w a.drew:=⟨h.os,h.tape,h.output,h.size,h.block⟩
theorem Chg.drewN {C:Nat->Prop} {w a:World} (h:Chg C w a) (n:Nat):Chg C w (a.drewN n):=⟨h.os,h.tape,h.output,h.size,h.block⟩
theorem Box9.drew {w:World} {b:Nat} {o:Int} {a c d e:Nat} {l h g:Int} {v:Value} (q:Box9 w b o a c d e l h g v):Box9 w.drew b o a c d e l h g v:=⟨q.d0,q.d1,q.d2,q.d3,q.d4,q.d5,q.d6,q.d7,q.d8,q.lt⟩
theorem Ho.drew {w:World} {b n:Nat} {a:List Int} (h:Ho w b n a):Ho w.drew b n a:=h.chg ((Chg.refl (fun _=>False) w).drew) (fun h=>h)
theorem Ho.look {w:World} {l n:Nat} {i:List Int} (h:Ho w l n i) {g:Int} {B:Bool} (p:i.contains g=B) (m: -9223372036854775808<=g) (o:g<=9223372036854775807):(Instr.lookup 136 (.map (some l)) (.int .i64 g) false).run Tryz.prog w=.ok (.bool B) w:=by
 obtain⟨D,b,e⟩:=h;obtain⟨v,r,d,q⟩:=b.lookup intLaw underlying136 (zeroB w) (plainElem_bool underlying4 false) (keyOf_int_mk underlying3 (WalkArith.wf_i64 ⟨m,o⟩));obtain⟨c,rfl,j⟩:=Iw underlying4 q;simp only[Prod.mk.injEq]at j;have a:=e.2 g;rw[j.1]at a;injection a with a;injection a with a;rw[d,a,p]
theorem Oq:∀a b:List Re,Dk (a++b)=(Dk a&&Dk b)
 | [],b=>by rw[List.nil_append,Dk,Bool.true_and]
 | x::r,b=>by rw[List.cons_append,Dk,Dk,Oq r b,Bool.and_assoc]
theorem Tw {l:List Re} {q:Nat} {t:Re} (h:l[q]? =some t):Dk (l.take (q+1))=(Dk (l.take q)&&typed t):=by rw[Bt h,Oq,Dk,Dk,Bool.and_true]
theorem Lt:∀(a b:List Re) (n:Nat) (c:List Int),Au (a++b) n c=Au b (n+Ai 6 a) (Au a n c)
 | [],b,n,c=>by rw[List.nil_append,Au,Ai,Nat.add_zero]
 | x::r,b,n,c=>by rw[List.cons_append,Au,Au,Lt r b,Ai,Nat.add_assoc]
theorem Oa {l:List Re} {q:Nat} {t:Re} (n:Nat) (a:List Int) (h:l[q]? =some t):Au (l.take (q+1)) n a=Ia t (n+Ai 6 (l.take q)) (Au (l.take q) n a):=by
 rw[Bt h,Lt,Au,Au]
theorem Mr:∀(a b:List Re) (n:Nat) (c:List Int),Cn (a++b) n c=(Cn a n c&&Cn b (n+Ai 6 a) (Au a n c))
 | [],b,n,c=>by rw[List.nil_append,Cn,Bool.true_and,Ai,Nat.add_zero,Au]
 | x::r,b,n,c=>by rw[List.cons_append,Cn,Cn,Mr r b,Ai,Au,Bool.and_assoc,Nat.add_assoc]
theorem Qf {l:List Re} {q:Nat} {t:Re} (n:Nat) (a:List Int) (h:l[q]? =some t):Cn (l.take (q+1)) n a=(Cn (l.take q) n a&&Kb t (n+Ai 6 (l.take q)) (Au (l.take q) n a)):=by
 rw[Bt h,Mr,Cn,Cn,Bool.and_true]
theorem keyInt {g:Int} (a: -9223372036854775808<=g) (b:g<=9223372036854775807):keyOf Tryz.prog 3 (.int .i64 g)=some (.int .i64 g):=keyOf_int_mk underlying3 (WalkArith.wf_i64 ⟨a,b⟩)
theorem bne_dec (a b:Int):(a != b)= !decide (a=b):=by by_cases h:a=b <;> simp[h]
theorem Ey (x a b:Bool):(x|| !a|| !b)=(x|| !(a&&b)):=by cases x <;> cases a <;> cases b <;> rfl
end ReMem
end Go.Proofs.YtjefcpjciogcjaaGreatDoor
