/- Lemmas for the walk of the law, in 9 parts. No condition beyond what each states. -/
import Derived.WalkKit
import Derived.Lib.Hide
import Derived.Laws.BitsAllLaws
import Derived.Laws.BytesString
import Derived.Laws.IdiomStrings
import Derived.Below
import Derived.Deep.Draws
import Derived.Lib.FrozenHead2
import Derived.Lib.BufferRead
import Derived.Maps.AppendAt
import Derived.Test.YtjefcpjciogcjaaGreatDoorProg
import Derived.Handy
import Derived.Deep.QuietTactic
import Derived.BigQuiet
import Derived.ProofKit
import Derived.OpenShut
import Derived.ChangeArms
namespace Go.Proofs.YtjefcpjciogcjaaGreatDoor
set_option maxRecDepth 100000
set_option linter.unusedVariables false
open Tryz
namespace Base
open Go
theorem Pj (n:Nat) (h:n<9223372036854775808):IntKind.i64.wrap (n:Int)=(n:Int):=by
 rw[IntKind.wrap_i64];omega
def byteAt (s:ByteArray) (j:Nat):Nat:=(s.data.toList.getD j 0).toNat
theorem run_byte {P:Program} (t:TypeId) (h:P.underlying t=some .string) (s:ByteArray) (k:IntKind) (i:Int) (a:0<=i) (hi:i<s.size) (w:World):
  (Instr.index t (.string s) (.int k i)).run P w=.ok (.int .u8 (byteAt s i.toNat)) w:=by
 rw[run_index_string w t s k i h,dif_pos ⟨a,hi⟩]
 congr 3
 have b:i.toNat<s.data.toList.length:=by simp;omega
 simp only[byteAt,List.getD_eq_getElem?_getD,List.getElem?_eq_getElem b,Option.getD_some];rfl
theorem Ba {B:Nat} {a w:World} (h:RowKit.Below B a w) (n:Nat):RowKit.Below B a (w.drewN n):=⟨h.os,h.tape,h.output,h.size,h.block⟩
end Base
open Go Go.RowKit
theorem qh {p : Prop} (h : p) : RowKit.Hid p := h
theorem qb (w : World) (o : Obj) : RowKit.Below w.heap.size w (w.alloc o) := (RowKit.Below.refl w.heap.size w).alloc (Nat.le_refl _) o
theorem qc {w : World} {g j : Nat} {cs : Array Value} {t : TypeId} {fr : Nat × Nat} (h : w.heap[g]? = some (.cells cs t fr)) : w.cell? ⟨g, j, none⟩ = cs[j]? := cell_of_row _ _ _ _ _ _ h
abbrev qw (w : World) : World → Prop := RowKit.Below w.heap.size w
theorem _root_.Go.RowKit.Hid.o {p : Prop} (h : RowKit.Hid p) : p := h
theorem ql {n : Nat} : n ≤ n := Nat.le_refl n
theorem qd {α : Type} {a : Array α} {i : Nat} {x : α} (h : a[i]? = some x) : i < a.size := (Array.getElem?_eq_some_iff.1 h).1
namespace Own
open Go Go.RowKit Go.Lib
def byteCells (l:List UInt8):List Value:=l.map fun b=>Value.int .u8 (b.toNat:Int)
theorem byteCells_length (l:List UInt8):(byteCells l).length=l.length:=by simp[byteCells]
def Row (w:World) (base:Nat) (e:TypeId) (size:Nat) (v:Value) (n:Nat) (xs:List Value):Prop:=
 xs.length=n*size/\
 ((v=.slice none 0 0/\n=0)\/
  ∃g cap cur fz,v=.slice (some ⟨g,0,none⟩) n cap/\base<=g/\w.heap[g]? =some (.cells cur e fz)/\(fz.2=0\/cap*size<=fz.1)/\n<=cap/\cap<=maxLen/\cur.size=cap*size/\cur.toList.take (n*size)=xs)
section
variable {w w':World} {base:Nat} {e:TypeId} {size:Nat} {v:Value} {n:Nat} {xs:List Value}
theorem Row.nil (w:World) (base:Nat) (e:TypeId) (size:Nat):Row w base e size (.slice none 0 0) 0 []:=⟨by simp,.inl ⟨rfl,rfl⟩⟩
theorem Row.of (h:w.ownsRow base e size v n xs):Row w base e size v n xs:=by
 refine⟨h.1,?_⟩;rcases h.2 with j | ⟨g,b,c,l,d,i,a⟩
 · exact .inl j
 · exact .inr ⟨g,b,c,(0,0),l,d,i,.inl rfl,a⟩
theorem Row.lt (h:Row w base e size v n xs):∀k,v.ownBlock=some k->base<=k/\k<w.heap.size:=by
 intro k a;rcases h.2 with ⟨rfl,_⟩ | ⟨g,b,c,fz,rfl,d,i,_⟩
 · simp[Value.ownBlock]at a
 ·simp[Value.ownBlock]at a
  subst a;exact⟨d,(qd i)⟩
theorem Row.keep (h:Row w base e size v n xs) (j:∀k,v.ownBlock=some k->w'.heap[k]? =w.heap[k]?):Row w' base e size v n xs:=by
 refine⟨h.1,?_⟩;rcases h.2 with l | ⟨g,b,c,fz,rfl,d,i,a⟩
 · exact .inl l
 · exact .inr ⟨g,b,c,fz,rfl,d,by rw[j g (by simp[Value.ownBlock])];exact i,a⟩
theorem Row.below (h:Row w base e size v n xs) (a:qw w w'):Row w' base e size v n xs:=
 h.keep fun k b=>a.block k (h.lt k b).2
theorem Row.alloc (h:Row w base e size v n xs) (o:Obj):Row (w.alloc o) base e size v n xs:=h.below ((Below.refl _ _).alloc ql o)
theorem Row.drew (h:Row w base e size v n xs):Row w.drew base e size v n xs:=h
theorem Row.drewN (h:Row w base e size v n xs) (k:Nat):Row (w.drewN k) base e size v n xs:=h
theorem Row.mono {a:Nat} (h:Row w base e size v n xs) (i:a<=base):Row w a e size v n xs:=by
 refine⟨h.1,?_⟩;rcases h.2 with l | ⟨g,c,d,fz,m,j,b⟩
 · exact .inl l
 · exact .inr ⟨g,c,d,fz,m,Nat.le_trans i j,b⟩
theorem Row.form (h:Row w base e size v n xs):∃a cap,v=.slice a n cap:=by
 rcases h.2 with ⟨rfl,rfl⟩ | ⟨g,cap,b,fz,rfl,_⟩
 · exact⟨none,0,rfl⟩
 · exact⟨_,cap,rfl⟩
theorem cell_at (w:World) (g j:Nat) (cur:Array Value) (e:TypeId) (fz:Nat×Nat) (a:w.heap[g]? =some (.cells cur e fz)):w.cell? ⟨g,j,none⟩=cur[j]? :=cell_of_row w g j cur e fz a
theorem Row.here (h:Row w base e size v n xs) (t:0<n):∃g cap,v=.slice (some ⟨g,0,none⟩) n cap/\base<=g/\g<w.heap.size/\n<=cap/\
  (∀j u,xs[j]? =some u->w.cell? ⟨g,j,none⟩=some u)/\(∀j,j<n*size->w.frozen? ⟨g,j,none⟩=false):=by
 rcases h.2 with ⟨rfl,rfl⟩ | ⟨g,cap,c,fz,rfl,m,i,d,a,o,p,l⟩
 · omega
 ·refine⟨g,cap,rfl,m,(qd i),a,?_,?_⟩
  ·intro j u b
   rw[cell_at w g j c e fz i];rw[<- l,List.getElem?_take]at b;split at b
   · simpa using b
   · cases b
  ·intro j q
   have r:j<cap*size:=Nat.lt_of_lt_of_le q (Nat.mul_le_mul_right _ a);obtain⟨lo,hi⟩:=fz;simp only[World.frozen?,i,Bool.and_eq_false_iff,decide_eq_false_iff_not];simp only at d;omega
theorem Row.cells (h:Row w base e size v n xs) {g:Nat} (i:v.ownBlock=some g):∀j u,xs[j]? =some u->w.cell? ((⟨g,0,none⟩:Addr).add j)=some u:=by
 intro j u c;have b:(⟨g,0,none⟩:Addr).add j=⟨g,j,none⟩:=by unfold Addr.add;split <;> simp_all
 rw[b];rcases h.2 with ⟨rfl,_⟩ | ⟨o,m,d,fz,rfl,_,l,_,_,_,_,a⟩
 · simp[Value.ownBlock]at i
 ·simp[Value.ownBlock]at i
  subst i;rw[cell_at w o j d e fz l];rw[<- a,List.getElem?_take]at c;split at c
  · simpa using c
  · cases c
theorem Ep (P:Program) (g o:Nat) (t:TypeId) (fz:Nat×Nat):∀(b:List Value) (i:Nat) (cur:Array Value) (w:World),w.heap[g]? =some (.cells cur t fz)->(fz.2=0\/o+i+b.length<=fz.1)->o+i+b.length<=cur.size->(∀v∈b,v.oneCell'=true)->
   (storeCells ⟨g,o,none⟩ b i).run P w=.ok () (w.setRow g (cur.toList.take (o+i)++b++cur.toList.drop (o+i+b.length)).toArray)
 | [],i,cur,w,hg,_,_,_=>by
   simp only[storeCells,List.append_nil,List.length_nil,Nat.add_zero,List.take_append_drop,Array.toArray_toList];rw[setRow_self w g cur t fz hg];rfl
 | v::rest,i,cur,w,hg,hfz,hl,h1=>by
   have hi:o+i<cur.size:=by simp at hl;omega
   have c:(⟨g,o,none⟩:Addr).add i=⟨g,o+i,none⟩:=by unfold Addr.add;split <;> simp_all
   have a:w.cell? ⟨g,o+i,none⟩=some cur[o+i]:=by simp[World.cell?,hg,hi]
   have d:w.frozen? ⟨g,o+i,none⟩=false:=by
    obtain⟨lo,j⟩:=fz;simp only[World.frozen?,hg,Bool.and_eq_false_iff,decide_eq_false_iff_not];simp only[List.length_cons]at hfz;omega
   have h:(store ((⟨g,o,none⟩:Addr).add i) v).run P w=.ok () (w.setRow g (cur.setIfInBounds (o+i) v)):=by
    rw[c,run_store P w _ v _ (h1 v (by simp)),a];simp[d,setCell_eq_setRow w g (o+i) cur t fz v hg]
   have m:=Ep P g o t fz rest (i+1) (cur.setIfInBounds (o+i) v) (w.setRow g (cur.setIfInBounds (o+i) v)) (setRow_heap w g cur _ t _ hg) (by simp at hfz ⊢;omega) (by simp at hl ⊢;omega) (fun x l=>h1 x (by simp[l]));simp only[storeCells,Sem.run_bind,h,Result.andThen_ok,m,setRow_setRow]
   congr 3
   have e:=list_seg_step cur.toList (o+i) v rest (by simp at hl ⊢;omega);simpa [Array.toList_setIfInBounds,Nat.add_assoc] using e
end
section
variable {P:Program} (w:World)
theorem Ru (t ty e:TypeId) (i:TypeInfo) (A:P.underlying t=some (.slice e)) (hi:P.info? e=some i)
  (g b d:Nat) (cur:Array Value) (fz:Nat×Nat) (y:w.heap[g]? =some (.cells cur e fz)) (x:fz.2=0\/d*i.size<=fz.1)
  (a:Addr) (m c:Nat) (news:List Value) (p:news.length=m*i.size) (l:∀j u,news[j]? =some u->w.cell? (a.add j)=some u) (q:∀u∈news,u.oneCell'=true)
  (h:b+m<=d) (n:b*i.size+news.length<=cur.size):
  (Builtin.append_ #[t,t] ty #[.slice (some ⟨g,0,none⟩) b d,.slice (some a) m c]).run P w=
    .ok (.slice (some ⟨g,0,none⟩) (b+m) d) (w.setRow g (cur.toList.take (b*i.size)++news++cur.toList.drop (b*i.size+news.length)).toArray):=by
 have r:=run_firstCells_some (P:=P) w i.size m a m c news p l;have z:b*i.size+news.length<=d*i.size:=by rw[p,<-Nat.add_mul];exact Nat.mul_le_mul_right _ h
 have o:=Ep P g (b*i.size) e fz news 0 cur w y (by omega) (by simpa using n) q;simp only[Nat.add_zero]at o;simp[Builtin.append_,run_underlying A,sizeOf,typeInfo,hi,Builtin.lenOf,h,r,Addr.add_lit,o]
theorem Gg (base:Nat) (t ty e:TypeId) (i:TypeInfo) (z:Value) (size bytes:Nat) (L:P.underlying t=some (.slice e)) (hi:P.info? e=some i) (U:i.zero=some z)
  (o:i.size=size) (y:i.bytes=bytes) (I:z.cells.size=size) (T:0<size)
  (v:Value) (n:Nat) (xs:List Value) (b:Row w base e size v n xs)
  (a:Addr) (m c:Nat) (news:List Value) (A:news.length=m*size) (h:∀j u,news[j]? =some u->w.cell? (a.add j)=some u) (X:∀u∈news,u.oneCell'=true)
  (r:n+m<=maxLen) (d:(n+m)*bytes<=140737488355328) (q:base<=w.heap.size):
  ∃ v' w',(Builtin.append_ #[t,t] ty #[v,.slice (some a) m c]).run P w=.ok v' w'/\Row w' base e size v' (n+m) (xs++news)/\w.grownBy w' v.ownBlock/\
    (v'.ownBlock=v.ownBlock\/v'.ownBlock=some w.heap.size):=by
 rcases b.2 with ⟨rfl,rfl⟩ | ⟨g,l,x,fz,rfl,M,Y,G,a1,N,O,C⟩
 ·obtain⟨v',w',J,r2,r3,r4⟩:=run_append_own (P:=P) w base t ty e i z size bytes L hi U o y I T (.slice none 0 0) 0 xs ⟨b.1,.inl ⟨rfl,rfl⟩⟩ a m c news A h X r d q
  refine⟨v',w',J,Row.of r2,r3,?_⟩;rcases r2.2 with ⟨rfl,_⟩ | ⟨g',V,W,rfl,_,a0,_⟩
  · exact .inl rfl
  · right
    by_cases hm0:m=0
    ·subst hm0
     have:=r4.2 ⟨rfl,rfl⟩;cases this
    ·have R:=run_append_nil (P:=P) w t ty e i z L hi U a m c news (by rw[A,o]) h (by omega) (by simp only[maxLen]at r;omega) (by rw[y];simp only[Nat.zero_add]at d;omega)
     rw[R]at J;injection J with J _;rw[<- J];rfl
 ·subst o
  subst y;have K:n+m<=9223372036854775807:=by simp only[maxLen]at r;omega
  have p:(xs++news).length=(n+m)*i.size:=by rw[List.length_append,b.1,A,Nat.add_mul]
  by_cases hroom:n+m<=l
  · have E:n*i.size+news.length<=x.size:=by rw[A,O,<-Nat.add_mul];exact Nat.mul_le_mul_right _ hroom
    have hr:=Ru (P:=P) w t ty e i L hi g n l x fz Y G a m c news A h X hroom E;refine⟨_,_,hr,⟨p,.inr ⟨g,l,_,fz,rfl,M,setRow_heap w g x _ e _ Y,G,hroom,N,?_,?_⟩⟩,⟨rfl,rfl,rfl,by simp,fun k _ S=>setRow_other w g k _ (fun e=>S (by simp[Value.ownBlock,e]))⟩,.inl rfl⟩
    ·simp only[List.size_toArray,List.length_append,List.length_take,List.length_drop,Array.length_toList]
     omega
    ·rw[C,<-p]
     exact List.take_left
  · have B:∀j u,xs[j]? =some u->w.cell? ((⟨g,0,none⟩:Addr).add j)=some u:=b.cells (g:=g) rfl
    have hr:=run_append_grow (P:=P) w t ty e i z L hi U ⟨g,0,none⟩ n l xs b.1 B a m c news A h (by omega) (by omega) (growslice_fits (by omega) d);have Q:=grownCap_ge w (n+m) l e;have D:grownCap w (n+m) l e<=maxLen:=grownCap_le_maxLen w (n+m) l e r;refine⟨_,_,hr,⟨p,.inr ⟨w.heap.size,_,_,(0,0),rfl,q,heap_alloc_new w.drew _,.inl rfl,Q,D,?_,?_⟩⟩,⟨rfl,rfl,rfl,by simp,fun k S _=>Below.heap_alloc w.drew _ k S⟩,.inr rfl⟩
    ·simp only[Array.size_append,List.size_toArray,size_zeroCells,I,b.1,A,<-Nat.add_mul]
     congr 1
     omega
    ·simp only[Array.toList_append,List.append_assoc]
     rw[<- List.append_assoc,<-p];exact List.take_left
theorem Row.run_str {w:World} {base:Nat} {e:TypeId} {v:Value} {n:Nat} {l:List UInt8} (h:Row w base e 1 v n (byteCells l)) (b a:TypeId) (o:P.underlying b=some (.slice e)) (i:P.underlying e=some (.int .u8)) (d:P.underlying a=some .string):
  (convert b a v).run P w=.ok (.string ⟨l.toArray⟩) w:=by
 have m:l.length=n:=by have:=h.1;simpa [byteCells_length] using this
 rcases h.2 with ⟨rfl,rfl⟩ | ⟨g,c,p,fz,rfl,_⟩
 ·have:l= []:=List.eq_nil_of_length_eq_zero m
  subst this;exact run_convert_nil_bytes w b a e 0 o i d
 ·subst m
  refine run_convert_bytes_back w b a e _ c l o i d fun j q=>h.cells (g:=g) rfl j _ (by simp[byteCells,q])
end
end Own
namespace Strs
open Go Go.RowKit
def Strs (w:World) (v:Value) (ls:List (List UInt8)):Prop:=
 ∃a c,v=.slice a ls.length c/\(ls.length<=c/\c<=maxLen)/\(ls≠ []->∃b off,a=some ⟨b,off,none⟩/\∀j x,ls[j]? =some x->w.cell? ⟨b,off+j,none⟩=some (.string ⟨x.toArray⟩))
theorem Strs.keep {w l:World} {v:Value} {i:List (List UInt8)} (h:Strs w v i) (n:∀p:Addr,(w.cell? p).isSome=true->l.cell? p=w.cell? p):Strs l v i:=by
 obtain⟨a,c,rfl,o,m⟩:=h;refine⟨a,c,rfl,o,fun e=>?_⟩;obtain⟨b,off,rfl,d⟩:=m e;exact⟨b,off,rfl,fun j x g=>by rw[n _ (by rw[d j x g];rfl)];exact d j x g⟩
theorem Strs.below {w b:World} {v:Value} {a:List (List UInt8)} (h:Strs w v a) (c:qw w b):Strs b v a:=
 h.keep fun p d=>c.cell (by obtain⟨x,e⟩:=Option.isSome_iff_exists.1 d;exact World.block_lt_of_cell? w p e)
theorem Strs.drewN {w:World} {v:Value} {a:List (List UInt8)} (h:Strs w v a) (n:Nat):Strs (w.drewN n) v a:=h
theorem Strs.nil (w:World):Strs w (.slice none 0 0) []:=⟨none,0,rfl,⟨ql,Nat.zero_le _⟩,fun h=>absurd rfl h⟩
def cellsOf (ls:List (List UInt8)):List Value:=ls.map fun x=>.string ⟨x.toArray⟩
theorem Vn (a:List (List UInt8)):(cellsOf a).length=a.length:=by simp[cellsOf]
theorem Strs.of_row {w:World} {base:Nat} {e:TypeId} {v:Value} {n:Nat} {b:List (List UInt8)} (h:Own.Row w base e 1 v n (cellsOf b)):Strs w v b:=by
 have u:b.length=n:=by have:=h.1;simpa [Vn] using this
 subst u;rcases h.2 with ⟨rfl,o⟩ | ⟨g,c,d,fz,rfl,y,r,q,l,i,p,m⟩
 ·have:b= []:=List.eq_nil_of_length_eq_zero o
  subst this;exact Strs.nil w
 ·refine⟨_,c,rfl,⟨l,i⟩,fun _=>⟨g,0,rfl,fun j x t=>?_⟩⟩
  rw[Nat.zero_add,Own.cell_at w g j d e fz r];have a:(cellsOf b)[j]? =some (.string ⟨x.toArray⟩):=by simp[cellsOf,t]
  rw[<- m,List.getElem?_take]at a;split at a
  · simpa using a
  · cases a
theorem Strs.take {w:World} {a:Option Addr} {n c:Nat} {i:List (List UInt8)} (h:Strs w (.slice a n c) i) (k:Nat) (r:k<=i.length):Strs w (.slice a k c) (i.take k):=by
 obtain⟨p,q,e,t,m⟩:=h;injection e with e1 e2 e3;subst e1 e2 e3;have o:(i.take k).length=k:=by simp;omega
 refine⟨a,c,by rw[o],by omega,fun l=>?_⟩;obtain⟨b,off,e,d⟩:=m (by intro e;subst e;simp at l);exact⟨b,off,e,fun j x g=>d j x (by rw[List.getElem?_take]at g;split at g;exact g;cases g)⟩
theorem up {w a:World} (b:qw w a) {p:Addr} {v:Value} (h:w.cell? p=some v):a.cell? p=some v:=(b.cell (World.block_lt_of_cell? w p h)).trans h
end Strs
namespace MatchMath
abbrev Span:=Int×Int
abbrev Parse:=Nat×List Span
inductive Re where
 | mk (op:Int) (set:Nat->Bool) (lo hi group:Int) (args:List Re)
namespace Re
def op:Re->Int | mk o _ _ _ _ _=>o
def set:Re->Nat->Bool | mk _ s _ _ _ _=>s
def lo:Re->Int | mk _ _ l _ _ _=>l
def hi:Re->Int | mk _ _ _ h _ _=>h
def group:Re->Int | mk _ _ _ _ g _=>g
def args:Re->List Re | mk _ _ _ _ _ a=>a
end Re
mutual
def size:Re->Nat
 | .mk _ _ _ _ _ args=>1+sizes args
def sizes:List Re->Nat
 | []=>0
 | x::r=>size x+sizes r
end
mutual
def Af (k:Int):Re->Nat
 | .mk o _ _ _ _ args=>(if o=k then 1 else 0)+Ai k args
def Ai (k:Int):List Re->Nat
 | []=>0
 | x::r=>Af k x+Ai k r
end
theorem Hl {x:Re} {l:List Re} (h:x∈l):size x<=sizes l:=by
 induction l with
 | nil=>cases h
 |cons y r ih=>
  rw[sizes];rcases List.mem_cons.1 h with rfl | h
  · omega
  · have:=ih h;omega
theorem Bo {x e:Re} (h:x∈e.args):size x<size e:=by
 obtain⟨o,s,l,a,g,args⟩:=e;have:=Hl h;rw[size];simp only[Re.args]at this;omega
def addU {α:Type} [DecidableEq α] (l:List α) (x:α):List α:=if x∈l then l else l++ [x]
def dd {α:Type} [DecidableEq α] (l:List α):List α:=l.foldl addU []
section
variable {α:Type} [DecidableEq α]
theorem mem_addU {l:List α} {x y:α}:y∈addU l x↔y∈l\/y=x:=by
 unfold addU;split
 ·rename_i h
  constructor
  · exact .inl
  ·rintro (a | rfl)
   · exact a
   · exact h
 · simp
theorem Ro:∀(l a:List α) (y:α),y∈l.foldl addU a↔y∈a\/y∈l
 | [],a,y=>by simp
 |x::r,a,y=>by
  rw[List.foldl_cons,Ro r,mem_addU];simp only[List.mem_cons];constructor
  ·rintro ((h | h) | h)
   · exact .inl h
   · exact .inr (.inl h)
   · exact .inr (.inr h)
  ·rintro (h | h | h)
   · exact .inl (.inl h)
   · exact .inl (.inr h)
   · exact .inr h
theorem Pc {l:List α} {y:α}:y∈dd l↔y∈l:=by unfold dd;rw[Ro];simp
theorem dd_snoc (l:List α) (x:α):dd (l++ [x])=addU (dd l) x:=by simp[dd]
theorem Rf (l m:List α):dd (l++m)=m.foldl addU (dd l):=by simp[dd]
theorem Uw {l:List α} {x:α} (h:x∈l):addU l x=l:=if_pos h
theorem Qa (p:α->Bool):∀(m l:List α),(m.foldl addU l).filter p=(m.filter p).foldl addU (l.filter p)
 | [],l=>rfl
 |x::r,l=>by
  rw[List.foldl_cons,Qa p r,List.filter_cons];by_cases hx:p x=true
  ·rw[if_pos hx,List.foldl_cons]
   congr 1
   unfold addU;by_cases hm:x∈l
   · rw[if_pos hm,if_pos (by simp[hm,hx])]
   ·rw[if_neg hm,if_neg (by simp[hm]),List.filter_append]
    simp[hx]
  ·rw[if_neg hx]
   congr 1
   unfold addU;by_cases hm:x∈l
   · rw[if_pos hm]
   ·rw[if_neg hm,List.filter_append]
    simp[hx]
theorem Zh (p:α->Bool) (l:List α):(dd l).filter p=dd (l.filter p):=Qa p l []
theorem Wl (l:List α) (x:α):l.length<=(addU l x).length:=by
 unfold addU;split <;> simp
theorem Lx:∀(m l:List α),l.length<=(m.foldl addU l).length
 | [],_=>Nat.le_refl _
 | x::r,l=>Nat.le_trans (Wl l x) (Lx r _)
theorem nodup_addU {l:List α} (h:l.Nodup) (x:α):(addU l x).Nodup:=by
 unfold addU;split
 · exact h
 ·rename_i g
  rw[List.nodup_append];refine⟨h,by simp,?_⟩;intro a d b c e;simp at c;subst c;exact g (e▸d)
theorem Mu:∀(m l:List α),l.Nodup->(m.foldl addU l).Nodup
 | [],_,h=>h
 | x::r,l,h=>Mu r _ (nodup_addU h x)
theorem nodup_dd (l:List α):(dd l).Nodup:=Mu l [] List.nodup_nil
theorem Fi:∀(m l:List α),m.Nodup->(∀x∈m,x∉l)->m.foldl addU l=l++m
 | [],l,_,_=>by simp
 |x::r,l,hn,h=>by
  obtain⟨h1,h2⟩:=List.nodup_cons.1 hn;rw[List.foldl_cons];have:addU l x=l++ [x]:=if_neg (h x (by simp));rw[this,Fi r _ h2 fun y a=>by
   simp only[List.mem_append,List.mem_singleton,not_or];exact⟨h y (by simp[a]),fun e=>h1 (e▸a)⟩]
  simp
theorem So {l:List α} (h:l.Nodup):dd l=l:=by
 unfold dd;rw[Fi l [] h (by simp)];rfl
theorem dd_dd (l:List α):dd (dd l)=dd l:=So (nodup_dd l)
end
def Br:Nat->List Parse->List Parse
 | 0,l=>l.filter fun p=>p.1==0
 | n+1,l=>(l.filter fun p=>p.1==n+1)++Br n l
theorem Km:∀(n:Nat) (l:List Parse) (x:Parse),x∈Br n l↔x∈l/\x.1<=n
 | 0,l,x=>by simp[Br]
 |n+1,l,x=>by
  rw[Br,List.mem_append,Km n,List.mem_filter];simp only[beq_iff_eq];constructor
  ·rintro (⟨h1,h2⟩ | ⟨h1,h2⟩)
   · exact⟨h1,by omega⟩
   · exact⟨h1,by omega⟩
  ·rintro ⟨h1,h2⟩
   by_cases h:x.1=n+1
   · exact .inl ⟨h1,h⟩
   · exact .inr ⟨h1,by omega⟩
theorem dd_byEnd:∀(n:Nat) (l:List Parse),dd (Br n l)=Br n (dd l)
 | 0,l=>by rw[Br,Br,Zh]
 |n+1,l=>by
  rw[Br,Br,Zh,Rf,dd_byEnd_aux n l (dd (l.filter fun p=>p.1==n+1))];intro x hx;have:=(List.mem_filter.1 (Pc.1 hx)).2;simp at this;omega
 where
 dd_byEnd_aux (n:Nat) (l a:List Parse) (ha:∀x∈a,n<x.1):(Br n l).foldl addU a=a++Br n (dd l):=by
  have d:∀(m b:List Parse),(∀x∈m,x∉a)->m.foldl addU (a++b)=a++m.foldl addU b:=by
   intro m
   induction m with
   | nil=>intro b _;rfl
   |cons x m ih=>
    intro b h;have c:x∉a:=h x (by simp);have e:addU (a++b) x=a++addU b x:=by
     unfold addU;by_cases hx:x∈b
     · rw[if_pos (by simp[hx]),if_pos hx]
     · rw[if_neg (by simp[hx,c]),if_neg hx,List.append_assoc]
    rw[List.foldl_cons,List.foldl_cons,e,ih _ fun y g=>h y (by simp[g])]
  have k2:=d (Br n l) [] fun x hx c=>by
   have i:=((Km n l x).1 hx).2;have j:=ha x c;omega
  rw[List.append_nil]at k2;rw[k2];show a++dd (Br n l)=_;rw[dd_byEnd n l]
end MatchMath
namespace MatchMath
abbrev Str:=List UInt8
abbrev F:=Nat->List Span->Option (List Parse)
def most:Nat:=4096
def lim (l:List Parse):Option (List Parse):=if most<l.length then none else some l
def done (n:Nat) (l:List Parse):Option (List Parse):=(lim (dd l)).map (Br n)
structure Text where
 s:Str
 lines:Bool
def Cj:Span:=(-1, -1)
def Di (l:List Span) (g:Int) (x:Span):List Span:=if 1<=g then l.set (g.toNat-1) x else l
mutual
def Ap:Re->List Int
 | .mk o _ _ _ g args=>(if o=6 then [g] else [])++Bh args
def Bh:List Re->List Int
 | []=> []
 | x::r=>Ap x++Bh r
end
def clear (gs:List Int) (l:List Span):List Span:=gs.foldl (fun l g=>Di l g Cj) l
def Text.begins (T:Text) (i:Nat):Bool:=i==0||(T.lines&&(T.s[i-1]? ==some 10))
def Text.ends (T:Text) (i:Nat):Bool:=i==T.s.length||(T.lines&&(T.s[i]? ==some 10))
def Text.hasAt (T:Text) (p:Nat->Bool) (i:Nat):Bool:=match T.s[i]? with
 | some b=>p b.toNat
 | none=>false
def Text.back (T:Text) (g:Int) (i:Nat) (l:List Span):List Parse:=match l[g.toNat-1]? with
 | some (a,b)=>if 0<=a/\i+(b-a).toNat<=T.s.length/\(T.s.drop a.toNat).take (b-a).toNat=(T.s.drop i).take (b-a).toNat then [(i+(b-a).toNat,l)] else []
 | none=> []
def collect (f:F):List Parse->Option (List Parse)
 | []=>some []
 | p::r=>(f p.1 p.2).bind fun l=>(collect f r).map fun m=>l++m
def Cs:List F->List Parse->Option (List Parse)
 | [],out=>some out
 | f::fs,out=>(collect f out).bind fun next=>(lim (dd next)).bind (Cs fs)
def De:List F->Nat->List Span->Option (List Parse)
 | [],_,_=>some []
 | f::fs,i,l=>(f i l).bind fun a=>(De fs i l).map fun b=>a++b
abbrev Sit:=Int×Parse
abbrev RSt:=List Sit×List Parse
def norm (lo hi c:Int):Int:=if hi= -1 then min c lo else c
def visit (f:F) (clr:List Span->List Span) (lo hi:Int):Nat->Int->Parse->RSt->Option RSt
 | 0,_,_,_=>none
 |n+1,c0,p,st=>
  let c:=norm lo hi c0
  if (c,p)∈st.1 then some st
  else if most<st.1.length+1 then none
  else ((if hi= -1\/c<hi then (f p.1 (clr p.2)).bind fun l=>l.foldlM (fun s q=>if p.1<q.1\/c<lo then visit f clr lo hi n (c+1) q s else some s) (st.1++ [(c,p)],st.2) else some (st.1++ [(c,p)],st.2))).map fun s=>(s.1,if lo<=c then s.2++ [p] else s.2)
def Fu (f:F) (clr:List Span->List Span) (lo hi:Int) (i:Nat) (l:List Span):Option (List Parse):=(visit f clr lo hi (most+1) 0 (i,l) ([],[])).map (·.2)
def Text.node (T:Text) (op:Int) (set:Nat->Bool) (lo hi group:Int) (gs:List Int) (fs:List F) (i:Nat) (l:List Span):Option (List Parse):=
 let n:=T.s.length
 if op=1 then done n [(i,l)]
 else if op=2 then done n (if T.hasAt set i then [(i+1,l)] else [])
 else if op=3 then (Cs fs [(i,l)]).bind (done n)
 else if op=4 then (De fs i l).bind (done n)
 else if op=5 then (match fs with | f::_=>Fu f (clear gs) lo hi i l | []=>some []).bind (done n)
 else if op=6 then (match fs with | f::_=>f i l | []=>some []).bind fun m=>done n (m.map fun (p:Parse)=>(p.1,Di p.2 group ((i:Int),(p.1:Int))))
 else if op=7 then done n (if T.begins i then [(i,l)] else [])
 else if op=8 then done n (if T.ends i then [(i,l)] else [])
 else if op=9 then done n (T.back group i l)
 else some []
mutual
def Text.parses (T:Text):Re->F
 | .mk o s l h g args=>T.node o s l h g (Ap (.mk o s l h g args)) (Text.parsesL T args)
def Text.parsesL (T:Text):List Re->List F
 | []=> []
 | x::r=>Text.parses T x::Text.parsesL T r
end
theorem Pf (T:Text):∀(l:List Re),T.parsesL l=l.map T.parses
 | []=>by rw[Text.parsesL];rfl
 | x::r=>by rw[Text.parsesL,Pf T r];rfl
def An (out:List Parse) (m:List Parse):List Parse:=m.foldl addU out
theorem dd_add (a m:List Parse):An (dd a) m=dd (a++m):=(Rf a m).symm
def Df (f:F):List Parse->List Parse->Option (List Parse)
 | [],next=>some next
 | p::r,next=>(f p.1 p.2).bind fun l=>if most< (An next l).length then none else Df f r (An next l)
theorem Rl (a b:List Parse):(dd a).length<=(dd (a++b)).length:=by rw[Rf];exact Lx _ _
theorem Sm (f:F):∀(out a:List Parse),(dd a).length<=most->Df f out (dd a)=(collect f out).bind fun m=>lim (dd (a++m))
 | [],a,h=>by
   simp only[Df,collect,Option.bind_some,List.append_nil];unfold lim;rw[if_neg (by omega)]
 | p::r,a,h=>by
   simp only[Df,collect];cases hf:f p.1 p.2 with
   | none=>rfl
   |some l=>
    simp only[Option.bind_some];rw[dd_add];by_cases hb:most< (dd (a++l)).length
    ·rw[if_pos hb]
     cases hc:collect f r with
     | none=>rfl
     |some m=>
      simp only[Option.map_some,Option.bind_some];unfold lim;rw[if_pos];rw[<- List.append_assoc];exact Nat.lt_of_lt_of_le hb (Rl _ _)
    ·rw[if_neg hb,Sm f r (a++l) (by omega)]
     cases hc:collect f r with
     | none=>rfl
     |some m=>
      simp only[Option.map_some,Option.bind_some,List.append_assoc]
theorem collectR_lim (f:F) (out:List Parse):Df f out []=(collect f out).bind fun m=>lim (dd m):=Sm f out [] (by simp[dd,most])
end MatchMath
namespace MatchMath
def Dg (p:Nat->Bool):Bool:=(List.range 256).all fun c=> !p c
def shaped:Re->Bool
 | .mk o s l h g args=>
   let n:=args.length
   let b:=decide (l=0/\h=0)
   let gr:=decide (g=0)
   if o=1\/o=7\/o=8 then decide (n=0)&&b&&gr&&Dg s
   else if o=2 then decide (n=0)&&b&&gr&& !Dg s
   else if o=3\/o=4 then decide (2<=n)&&b&&gr&&Dg s
   else if o=5 then decide (n=1)&&gr&&Dg s
   else if o=6 then decide (n=1)&&b&&Dg s
   else if o=9 then decide (n=0)&&b&&Dg s
   else false
def counted (l h:Int):Bool:=decide (0<=l/\l<=64/\(h= -1\/l<=h/\h<=64))
mutual
def typed:Re->Bool
 | .mk o s l h g args=>shaped (.mk o s l h g args)&&Dk args
def Dk:List Re->Bool
 | []=>true
 | x::r=>typed x&&Dk r
end
mutual
def ranged:Re->Nat->Bool
 | .mk o _ l h g args,n=>(if o=5 then counted l h else true)&&(if o=6 then decide (g=(n:Int)+1)&&Bd args (n+1) else Bd args n)
def Bd:List Re->Nat->Bool
 | [],_=>true
 | x::r,n=>ranged x n&&Bd r (n+Af 6 x)
end
mutual
def closes:Re->List Int->List Int
 | .mk o _ _ _ g args,cl=>if o=6 then Ay args cl++ [g] else Ay args cl
def Ay:List Re->List Int->List Int
 | [],cl=>cl
 | x::r,cl=>Ay r (closes x cl)
end
mutual
def named:Re->List Int->Bool
 | .mk o _ _ _ g args,cl=>(if o=9 then cl.contains g else true)&&Dj args cl
def Dj:List Re->List Int->Bool
 | [],_=>true
 | x::r,cl=>named x cl&&Dj r (closes x cl)
end
mutual
def levels:Re->Nat
 | .mk _ _ _ _ _ args=>Bm args+1
def Bm:List Re->Nat
 | []=>0
 | x::r=>max (levels x) (Bm r)
end
def Bf (e:Re):Bool:=typed e&&ranged e 0&&named e []&&decide (size e<=600/\Af 6 e<=9/\levels e<=32)
def weight (n l h:Int):Int:=
 if l=0/\(h=1\/h= -1)\/l=1/\h= -1 then n+1
 else if h=0 then 1
 else if l=1/\h=1 then n
 else if h=l then 1+l*n
 else if h= -1 then 2+l*n
 else 1+l*n+(h-l)*(n+1)
mutual
def Ia:Re->Nat->List Int->List Int
 | .mk o _ _ _ g args,n,cl=>if o=6 then (if g=(n:Int)+1 then Au args (n+1) cl++ [(n:Int)+1] else Au args (n+1) cl) else Au args n cl
def Au:List Re->Nat->List Int->List Int
 | [],_,cl=>cl
 | x::r,n,cl=>Au r (n+Af 6 x) (Ia x n cl)
end
mutual
def Kb:Re->Nat->List Int->Bool
 | .mk o _ _ _ g args,n,cl=>(if o=9 then cl.contains g else true)&&Cn args (if o=6 then n+1 else n) cl
def Cn:List Re->Nat->List Int->Bool
 | [],_,_=>true
 | x::r,n,cl=>Kb x n cl&&Cn r (n+Af 6 x) (Ia x n cl)
end
mutual
theorem Ze:∀(e:Re) (n:Nat) (cl:List Int),ranged e n=true->Ia e n cl=closes e cl
 | .mk o s l h g args,n,cl,hr=>by
   unfold ranged at hr;simp only[Bool.and_eq_true]at hr;unfold Ia closes;by_cases ho:o=6
   ·rw[if_pos ho]at hr
    simp only[Bool.and_eq_true,decide_eq_true_eq]at hr;rw[if_pos ho,if_pos ho,if_pos hr.2.1,Ov args (n+1) cl hr.2.2,hr.2.1]
   ·rw[if_neg ho]at hr
    rw[if_neg ho,if_neg ho,Ov args n cl hr.2]
theorem Ov:∀(l:List Re) (n:Nat) (cl:List Int),Bd l n=true->Au l n cl=Ay l cl
 | [],_,_,_=>by unfold Au Ay;rfl
 | x::r,n,cl,hr=>by
   unfold Bd at hr;simp only[Bool.and_eq_true]at hr;unfold Au Ay;rw[Ze x n cl hr.1,Ov r _ _ hr.2]
end
mutual
theorem named_eq:∀(e:Re) (n:Nat) (cl:List Int),ranged e n=true->Kb e n cl=named e cl
 | .mk o s l h g args,n,cl,hr=>by
   unfold ranged at hr;simp only[Bool.and_eq_true]at hr;unfold Kb named;by_cases ho:o=6
   ·rw[if_pos ho]at hr
    simp only[Bool.and_eq_true,decide_eq_true_eq]at hr;rw[if_pos ho,Rp args (n+1) cl hr.2.2]
   ·rw[if_neg ho]at hr
    rw[if_neg ho,Rp args n cl hr.2]
theorem Rp:∀(l:List Re) (n:Nat) (cl:List Int),Bd l n=true->Cn l n cl=Dj l cl
 | [],_,_,_=>by unfold Cn Dj;rfl
 | x::r,n,cl,hr=>by
   unfold Bd at hr;simp only[Bool.and_eq_true]at hr;unfold Cn Dj;rw[named_eq x n cl hr.1,Ze x n cl hr.1,Rp r _ _ hr.2]
end
def Bz (e:Re):Int:=if typed e=false then 7 else if ranged e 0=false then 2 else if named e []=false then 4 else if 600<size e\/9<Af 6 e\/32<levels e then 3 else 0
theorem Ar (e:Re):Bz e=0↔Bf e=true:=by
 unfold Bz Bf;cases typed e <;> cases ranged e 0 <;> cases named e [] <;> simp
end MatchMath
namespace Sets
def Pd (f:Nat->Bool):Nat->Nat
 | 0=>0
 | n+1=>2^n*(if f n then 1 else 0)+Pd f n
theorem ofBits_lt (f:Nat->Bool) (n:Nat):Pd f n<2^n:=by
 induction n with
 | zero=>exact Nat.one_pos
 |succ n ih=>
  simp only[Pd,Nat.pow_succ];split <;> omega
theorem Xk (f:Nat->Bool) (n i:Nat):(Pd f n).testBit i=(decide (i<n)&&f i):=by
 induction n with
 | zero=>simp[Pd]
 |succ n ih=>
  rw[Pd,Nat.two_pow_add_eq_or_of_lt (ofBits_lt f n),Nat.testBit_or,ih,Nat.testBit_two_pow_mul];by_cases h:i<n
  ·have b:¬n<=i:=by omega
   have a:i<n+1:=by omega
   simp[h,b,a]
  ·by_cases h':i=n
   ·subst h'
    cases f i <;> simp
   ·have b:n<=i:=by omega
    have a:¬i<n+1:=by omega
    have c:1<=i-n:=by omega
    cases f n
    · simp[h,a]
    ·have:(1:Nat).testBit (i-n)=false:=by
      apply Nat.testBit_lt_two_pow;exact Nat.lt_of_lt_of_le (by decide:1<2^1) (Nat.pow_le_pow_right (by decide) c)
     simp[h,a,this]
def Aa (p:Nat->Bool) (j:Nat):Nat:=Pd (fun i=>p (64*j+i)) 64
theorem Eb (p:Nat->Bool) (j:Nat):Aa p j<18446744073709551616:=ofBits_lt _ 64
theorem Bq (p:Nat->Bool) (j i:Nat):(Aa p j).testBit i=(decide (i<64)&&p (64*j+i)):=Xk _ 64 i
theorem high (x i:Nat) (h:x<18446744073709551616) (hi:¬i<64):x.testBit i=false:=
 Nat.testBit_lt_two_pow (Nat.lt_of_lt_of_le h (Nat.pow_le_pow_right (n:=2) (i:=64) (j:=i) (by decide) (by omega)))
theorem word_ext (x y:Nat) (a:x<18446744073709551616) (b:y<18446744073709551616) (h:∀i,i<64->x.testBit i=y.testBit i):x=y:=by
 apply Nat.eq_of_testBit_eq;intro i;by_cases hi:i<64
 · exact h i hi
 · rw[high x i a hi,high y i b hi]
theorem Nv (x:Nat) (a:x<18446744073709551616) (p:Nat->Bool) (j:Nat) (h:∀i,i<64->x.testBit i=p (64*j+i)):x=Aa p j:=
 word_ext x _ a (Eb p j) fun i hi=>by rw[Bq,h i hi];simp[hi]
def ins (p:Nat->Bool) (c:Nat):Nat->Bool:=fun d=>p d||d==c
def Uq (b:Nat->Nat):Nat->Bool:=fun c=>(b (c/64)).testBit (c%64)
theorem Dn (b:Nat->Nat) (j:Nat) (h:b j<18446744073709551616):Aa (Uq b) j=b j:=by
 symm
 apply Nv _ h;intro i hi;simp only[Uq];rw[show (64*j+i)/64=j from by omega,show (64*j+i)%64=i from by omega]
end Sets
namespace Args
open Go Go.ChangeShapes Go.WideShapes Go.ChangeAt Go.RowKit
section
variable {H:Type} {enc:TypeId×Value->H} {P:Program} {w:World} {base:Nat} {spare:Nat->Bool} {held:Bool}
theorem Va {t e:TypeId} {n:Nat} {k:IntKind} {c:Nat} {cs:List Value} {x:DataW H×List MemPlace} (u:P.underlying t=some (.array n e)) (q:P.underlying e=some (.int k)) (p:P.cellsOf e=1) (o:P.cellsOf t=n)
  (h:DataW.trod enc P w base spare held c t cs=some x):∃zs:List Int,zs.length=n/\cs=zs.map (Value.int k)/\∀z∈zs,(Lit.int k z).wf=true:=by
 obtain⟨B,m,_,_,b,A,r⟩:=DataW.trod_array u h;rw[o]at b;have d:∀i,i<n->∃z,cs[i]? =some (.int k z)/\(Lit.int k z).wf=true:=by
  intro i hi;have g:=r i hi;rw[p,Nat.mul_one,List.getElem?_eq_getElem (by omega)]at g;obtain⟨z,a,_,j⟩:=DataW.trod_int q g;refine⟨z,?_,j⟩;have l:(cs.drop i).take 1= [cs[i]'(by omega)]:=by
   rw[List.drop_eq_getElem_cons (by omega)];rfl
  rw[l]at a;injection a with a;rw[List.getElem?_eq_getElem (by omega),a]
 refine⟨cs.map intOf,by simpa using b,?_,?_⟩
 ·apply List.ext_getElem (by simp)
  intro i g l;obtain⟨z,a,_⟩:=d i (by omega);rw[List.getElem?_eq_getElem g]at a;injection a with a;simp[a,intOf]
 ·intro z a
  obtain⟨v,y,rfl⟩:=List.mem_map.1 a;obtain⟨i,hi,rfl⟩:=List.getElem_of_mem y;obtain⟨z,a,j⟩:=d i (by omega);rw[List.getElem?_eq_getElem hi]at a;injection a with a;rw[a];exact j
end
end Args
namespace Args2
open Go Go.ChangeShapes Go.WideShapes Go.ChangeAt Go.RowKit
theorem Uu {z:Int} (h:(Lit.int .u64 z).wf=true):((z.toNat:Nat):Int)=z/\z.toNat<18446744073709551616:=by
 have:=bounds_u64 h;omega
theorem Vo {H:Type} {enc:TypeId×Value->H} {W:World} {n:Nat} {cs:List Value} {x:DataW H×List MemPlace} (h:DataW.trod enc Tryz.prog W 0 (fun _=>true) true n 25 cs=some x):
   ∃p:Nat->Bool,cs= [.int .u64 (Sets.Aa p 0:Nat),.int .u64 (Sets.Aa p 1:Nat),.int .u64 (Sets.Aa p 2:Nat),.int .u64 (Sets.Aa p 3:Nat)]:=by
 obtain⟨y,m,_,_,a,e,r⟩:=DataW.trod_struct underlying25 h;have q:=r 0 _ rfl;have t:y.length=1:=e;rw[List.getElem?_eq_getElem (by omega)]at q;obtain⟨zs,u,b,c⟩:=Args.Va underlying23 underlying22 (by kernel_rfl) (by kernel_rfl) q;have d:cs.length=4:=a.trans (by kernel_rfl)
 match cs,d,zs,u with
 | [c0,c1,c2,c3],_,[z0,z1,z2,z3],_=>
   simp[show Tryz.prog.cellsOf 23=4 from by kernel_rfl]at b;obtain⟨rfl,rfl,rfl,rfl⟩:=b;have g:=Uu (c z0 (by simp));have i:=Uu (c z1 (by simp));have l:=Uu (c z2 (by simp));have o:=Uu (c z3 (by simp));refine⟨Sets.Uq fun j=> [z0.toNat,z1.toNat,z2.toNat,z3.toNat].getD j 0,?_⟩;rw[Sets.Dn _ 0 g.2,Sets.Dn _ 1 i.2,Sets.Dn _ 2 l.2,Sets.Dn _ 3 o.2];show _= [Value.int .u64 (z0.toNat:Nat),.int .u64 (z1.toNat:Nat),.int .u64 (z2.toNat:Nat),.int .u64 (z3.toNat:Nat)];rw[g.1,i.1,l.1,o.1]
end Args2
end Go.Proofs.YtjefcpjciogcjaaGreatDoor
