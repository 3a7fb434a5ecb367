/- Lemmas for the walk of the law, in 2 parts. No condition beyond what each states. -/
import Derived.Test.YtjefcpjciogcjaaGreatDoorG0
import Derived.Below
namespace Go.Proofs.YtjefcpjciogcjaaGreatDoor
set_option maxRecDepth 100000
set_option linter.unusedVariables false
namespace Cx
open Go
theorem Iu {m n:Nat} (h:m≠n):Nat.beq m n=false:=by
 cases hb:Nat.beq m n
 · rfl
 · exact absurd (Nat.eq_of_beq_eq_true hb) h
theorem Iv {m n:Nat} (h:m=n):Nat.beq m n=true:=by subst h;exact Nat.beq_refl m
def deep:Nat:=40
inductive Tr (α:Type) where
 | leaf
 | node (v:Option α) (l r:Tr α)
namespace Tr
variable {α:Type}
def top (t:Tr α):Option α:=@Tr.casesOn α (fun _=>Option α) t none (fun v _ _=>v)
def left (t:Tr α):Tr α:=@Tr.casesOn α (fun _=>Tr α) t .leaf (fun _ l _=>l)
def right (t:Tr α):Tr α:=@Tr.casesOn α (fun _=>Tr α) t .leaf (fun _ _ r=>r)
def getF (f:Nat):Tr α->Nat->Option α:=@Nat.rec (fun _=>Tr α->Nat->Option α) (fun _ _=>none)
 (fun _ ih t n=>@Tr.casesOn α (fun _=>Option α) t none fun v l r=>@Bool.casesOn (fun _=>Option α) (Nat.beq n 0) (@Bool.casesOn (fun _=>Option α) (Nat.beq (n%2) 1) (ih r (n/2-1)) (ih l (n/2))) v) f
def get (t:Tr α) (n:Nat):Option α:=getF deep t n
def set (f:Nat):Tr α->Nat->Option α->Tr α:=@Nat.rec (fun _=>Tr α->Nat->Option α->Tr α) (fun t _ _=>t)
 (fun _ ih t n v=>@Bool.casesOn (fun _=>Tr α) (Nat.beq n 0) (@Bool.casesOn (fun _=>Tr α) (Nat.beq (n%2) 1) (.node t.top t.left (ih t.right (n/2-1) v)) (.node t.top (ih t.left (n/2) v) t.right)) (.node v t.left t.right)) f
theorem Zo (f n:Nat):getF f (Tr.leaf:Tr α) n=none:=by cases f <;> rfl
theorem get_leaf (n:Nat):(Tr.leaf:Tr α).get n=none:=rfl
theorem Ri (f:Nat) (t:Tr α) (n:Nat):getF (f+1) t n=if n=0 then t.top else if n%2=1 then getF f t.left (n/2) else getF f t.right (n/2-1):=by
 cases t with
 |leaf=>
  have a:getF f (Tr.leaf:Tr α).left (n/2)=none:=Zo _ _;have b:getF f (Tr.leaf:Tr α).right (n/2-1)=none:=Zo _ _;rw[a,b];have c:(Tr.leaf:Tr α).top=none:=rfl;rw[c];simp only[ite_self];rfl
 |node v l r=>
  show (@Bool.casesOn (fun _=>Option α) (Nat.beq n 0) (@Bool.casesOn (fun _=>Option α) (Nat.beq (n%2) 1) (getF f r (n/2-1)) (getF f l (n/2))) v)=if n=0 then v else if n%2=1 then getF f l (n/2) else getF f r (n/2-1);by_cases h:n=0
  · rw[if_pos h,Iv h]
  ·rw[if_neg h,Iu h]
   by_cases a:n%2=1
   · rw[if_pos a,Iv a]
   · rw[if_neg a,Iu a]
theorem Xf (f:Nat) (t:Tr α) (n:Nat) (v:Option α):t.set (f+1) n v=if n=0 then .node v t.left t.right else if n%2=1 then .node t.top (t.left.set f (n/2) v) t.right else .node t.top t.left (t.right.set f (n/2-1) v):=by
 show (@Bool.casesOn (fun _=>Tr α) (Nat.beq n 0) (@Bool.casesOn (fun _=>Tr α) (Nat.beq (n%2) 1) (.node t.top t.left (t.right.set f (n/2-1) v)) (.node t.top (t.left.set f (n/2) v) t.right)) (.node v t.left t.right))=_;by_cases h:n=0
 · rw[if_pos h,Iv h]
 ·rw[if_neg h,Iu h]
  by_cases h1:n%2=1
  · rw[if_pos h1,Iv h1]
  · rw[if_neg h1,Iu h1]
theorem getF_set (f:Nat):∀(t:Tr α) (n:Nat) (v:Option α),n+1<2^f->getF f (t.set f n v) n=v:=by
 induction f with
 | zero=>intro t n v h;simp at h
 |succ f ih=>
  intro t n v h;have a:2^(f+1)=2*2^f:=by rw[Nat.pow_succ];omega
  rw[Ri,Xf];by_cases h0:n=0
  · simp only[h0,if_true];rfl
  ·by_cases h1:n%2=1
   ·simp only[h0,h1,if_false,if_true]
    exact ih _ _ _ (by omega)
   ·simp only[h0,h1,if_false]
    exact ih _ _ _ (by omega)
theorem getF_set_ne (f:Nat):∀(t:Tr α) (n m:Nat) (v:Option α),m≠n->getF f (t.set f n v) m=getF f t m:=by
 induction f with
 | zero=>intro t n m v h;rfl
 |succ f ih=>
  intro t n m v h;rw[Ri,Ri,Xf];by_cases h0:n=0
  ·subst h0
   simp only[h,if_false,if_true];rfl
  ·by_cases h1:n%2=1
   ·simp only[h0,h1,if_false,if_true]
    by_cases hm:m=0
    · simp only[hm,if_true];rfl
    ·by_cases hm1:m%2=1
     · simp only[hm,hm1,if_false,if_true];exact ih _ _ _ _ (by omega)
     · simp only[hm,hm1,if_false];rfl
   ·simp only[h0,h1,if_false]
    by_cases hm:m=0
    · simp only[hm,if_true];rfl
    ·by_cases hm1:m%2=1
     · simp only[hm,hm1,if_false,if_true];rfl
     · simp only[hm,hm1,if_false];exact ih _ _ _ _ (by omega)
theorem Fp (t:Tr α) (n:Nat) (v:Option α) (h:n+1<2^deep):(t.set deep n v).get n=v:=getF_set deep t n v h
theorem Cw (t:Tr α) (n m:Nat) (v:Option α) (h:m≠n):(t.set deep n v).get m=t.get m:=getF_set_ne deep t n m v h
end Tr
section
variable {α:Type}
def nth (l:List α) (n:Nat):Option α:=@Nat.rec (fun _=>List α->Option α) (fun l=>@List.casesOn α (fun _=>Option α) l none (fun a _=>some a)) (fun _ ih l=>@List.casesOn α (fun _=>Option α) l none (fun _ r=>ih r)) n l
def Sq (n:Nat) (l:List α):List α:=@Nat.rec (fun _=>List α->List α) (fun l=>l) (fun _ ih l=>@List.casesOn α (fun _=>List α) l [] (fun _ r=>ih r)) n l
def takeN (n:Nat) (l:List α):List α:=@Nat.rec (fun _=>List α->List α) (fun _=> []) (fun _ ih l=>@List.casesOn α (fun _=>List α) l [] (fun a r=>a::ih r)) n l
def lenIs (n:Nat) (l:List α):Bool:=@Nat.rec (fun _=>List α->Bool) (fun l=>@List.casesOn α (fun _=>Bool) l true (fun _ _=>false)) (fun _ ih l=>@List.casesOn α (fun _=>Bool) l false (fun _ r=>ih r)) n l
def Qs (vs:List α) (o:Nat) (l:List α):List α:=@Nat.rec (fun _=>List α->List α) (fun l=>vs++Sq vs.length l) (fun _ ih l=>@List.casesOn α (fun _=>List α) l (vs++ []) (fun a r=>a::ih r)) o l
def leLen (n:Nat) (l:List α):Bool:=@Nat.rec (fun _=>List α->Bool) (fun _=>true) (fun _ ih l=>@List.casesOn α (fun _=>Bool) l false (fun _ r=>ih r)) n l
theorem Wk:∀(n:Nat) (l:List α),leLen n l=true->n<=l.length
 | 0,_,_=>Nat.zero_le _
 | _+1,[],h=>by cases h
 | n+1,_::r,h=>Nat.succ_le_succ (Wk n r h)
theorem nth_eq:∀(n:Nat) (l:List α),nth l n=l[n]?
 | 0,[]=>rfl
 | 0,_::_=>rfl
 | _+1,[]=>rfl
 | n+1,_::r=>nth_eq n r
theorem Pv:∀(n:Nat) (l:List α),Sq n l=l.drop n
 | 0,[]=>rfl
 | 0,_::_=>rfl
 | _+1,[]=>rfl
 | n+1,_::r=>Pv n r
theorem Xj:∀(n:Nat) (l:List α),takeN n l=l.take n
 | 0,[]=>rfl
 | 0,_::_=>rfl
 | _+1,[]=>rfl
 | n+1,a::r=>congrArg (a:: ·) (Xj n r)
theorem Mp:∀(n:Nat) (l:List α),lenIs n l=Nat.beq n l.length
 | 0,[]=>rfl
 | 0,_::_=>rfl
 | _+1,[]=>rfl
 | n+1,_::r=>Mp n r
theorem Pi (b:List α):∀(o:Nat) (l:List α),Qs b o l=l.take o++(b++l.drop (o+b.length))
 |0,l=>by
  show b++Sq b.length l=_;rw[Pv];simp
 |o+1,[]=>by
  show b++ []=_;simp
 |o+1,a::r=>by
  show a::Qs b o r=_;rw[Pi b o r];have:o+1+b.length=(o+b.length)+1:=by omega
  rw[this];simp
end
section
variable {α β:Type}
def Dp (n:Nat) (k:Nat->β):β:=@Nat.casesOn (fun _=>β) n (k 0) (fun m=>k (Nat.succ m))
theorem Dx (n:Nat) (k:Nat->β):Dp n k=k n:=by cases n <;> rfl
def setK (f:Nat):Tr α->Nat->Option α->(Tr α->β)->β:=@Nat.rec (fun _=>Tr α->Nat->Option α->(Tr α->β)->β) (fun t _ _ k=>k t)
 (fun _ ih t n v k=>@Bool.casesOn (fun _=>β) (Nat.beq n 0)
   (@Bool.casesOn (fun _=>β) (Nat.beq (n%2) 1)
     (@Tr.casesOn α (fun _=>β) t (Dp (n/2-1) fun m=>ih .leaf m v fun r=>k (.node none .leaf r)) (fun u l r=>Dp (n/2-1) fun m=>ih r m v fun r=>k (.node u l r)))
     (@Tr.casesOn α (fun _=>β) t (Dp (n/2) fun m=>ih .leaf m v fun l=>k (.node none l .leaf)) (fun u l r=>Dp (n/2) fun m=>ih l m v fun l=>k (.node u l r))))
   (@Tr.casesOn α (fun _=>β) t (k (.node v .leaf .leaf)) (fun _ l r=>k (.node v l r)))) f
theorem setK_succ (f:Nat) (t:Tr α) (n:Nat) (v:Option α) (k:Tr α->β):setK (f+1) t n v k=if n=0 then k (.node v t.left t.right) else if n%2=1 then setK f t.left (n/2) v (fun l=>k (.node t.top l t.right)) else setK f t.right (n/2-1) v (fun r=>k (.node t.top t.left r)):=by
 show (@Bool.casesOn (fun _=>β) (Nat.beq n 0)
  (@Bool.casesOn (fun _=>β) (Nat.beq (n%2) 1)
    (@Tr.casesOn α (fun _=>β) t (Dp (n/2-1) fun m=>setK f .leaf m v fun r=>k (.node none .leaf r)) (fun u l r=>Dp (n/2-1) fun m=>setK f r m v fun r=>k (.node u l r)))
    (@Tr.casesOn α (fun _=>β) t (Dp (n/2) fun m=>setK f .leaf m v fun l=>k (.node none l .leaf)) (fun u l r=>Dp (n/2) fun m=>setK f l m v fun l=>k (.node u l r))))
  (@Tr.casesOn α (fun _=>β) t (k (.node v .leaf .leaf)) (fun _ l r=>k (.node v l r))))=_
 by_cases h:n=0
 ·rw[if_pos h,Iv h]
  cases t <;> rfl
 ·rw[if_neg h,Iu h]
  by_cases h1:n%2=1
  · rw[if_pos h1,Iv h1]
    cases t <;> exact Dx _ _
  · rw[if_neg h1,Iu h1]
    cases t <;> exact Dx _ _
theorem Gx (f:Nat):∀(t:Tr α) (n:Nat) (v:Option α) (k:Tr α->β),setK f t n v k=k (t.set f n v):=by
 induction f with
 | zero=>intro t n v k;rfl
 |succ f ih=>
  intro t n v k;rw[setK_succ,Tr.Xf,ih,ih];by_cases h:n=0
  · rw[if_pos h,if_pos h]
  ·rw[if_neg h,if_neg h]
   by_cases h1:n%2=1
   · rw[if_pos h1,if_pos h1]
   · rw[if_neg h1,if_neg h1]
def forceSF (f:Nat):List α->(List α->β)->β:=@Nat.rec (fun _=>List α->(List α->β)->β) (fun l k=>k l) (fun _ ih l k=>@List.casesOn α (fun _=>β) l (k []) (fun a r=>ih r fun r=>k (a::r))) f
theorem Wb:∀(f:Nat) (l:List α) (k:List α->β),forceSF f l k=k l
 | 0,_,_=>rfl
 | _+1,[],_=>rfl
 | f+1,a::r,k=>Wb f r fun r=>k (a::r)
def Rg (l:List α) (k:List α->β):β:=forceSF 1000000000 l k
theorem Ki (l:List α) (k:List α->β):Rg l k=k l:=Wb 1000000000 l k
def apKF (new:List α) (f:Nat):List α->(List α->β)->β:=@Nat.rec (fun _=>List α->(List α->β)->β) (fun l k=>k (l++new)) (fun _ ih l k=>@List.casesOn α (fun _=>β) l (Rg new k) (fun a r=>ih r fun r=>k (a::r))) f
theorem apKF_eq (new:List α):∀(f:Nat) (l:List α) (k:List α->β),apKF new f l k=k (l++new)
 | 0,_,_=>rfl
 | _+1,[],k=>Ki new k
 | f+1,a::r,k=>apKF_eq new f r fun r=>k (a::r)
def apK (new l:List α) (k:List α->β):β:=apKF new 1000000000 l k
theorem apK_eq (new l:List α) (k:List α->β):apK new l k=k (l++new):=apKF_eq new 1000000000 l k
def spliceE (vs l:List α) (k:List α->β):β:=match vs with
 | [v]=>@List.casesOn α (fun _=>β) l (k [v]) (fun _ r=>k (v::r))
 | vs=>Rg (vs++Sq vs.length l) k
theorem spliceE_eq (a l:List α) (k:List α->β):spliceE a l k=k (a++Sq a.length l):=by
 unfold spliceE;split
 ·rename_i v
  cases l <;> rfl
 · exact Ki _ _
def spliceK (vs:List α) (o:Nat):List α->(List α->β)->β:=@Nat.rec (fun _=>List α->(List α->β)->β) (fun l k=>spliceE vs l k) (fun _ ih l k=>@List.casesOn α (fun _=>β) l (Rg (vs++ []) k) (fun a r=>ih r fun r=>k (a::r))) o
theorem Ph (b:List α):∀(o:Nat) (l:List α) (k:List α->β),spliceK b o l k=k (Qs b o l)
 | 0,l,k=>spliceE_eq b l k
 | _+1,[],k=>Ki _ k
 | o+1,a::r,k=>Ph b o r fun r=>k (a::r)
def Uo (v:Value) (k:Value->β):β:=match v with
 | .int d i=>match i with
   | .ofNat n=>Dp n fun n=>k (.int d (.ofNat n))
   | .negSucc n=>k (.int d (.negSucc n))
 | .bool b=>match b with
   | true=>k (.bool true)
   | false=>k (.bool false)
 | .pointer a=>match a with
   | some ⟨b,o,none⟩=>Dp b fun b=>Dp o fun o=>k (.pointer (some ⟨b,o,none⟩))
   | a=>k (.pointer a)
 | .slice a l c=>match a with
   | some ⟨b,o,none⟩=>Dp b fun b=>Dp o fun o=>Dp l fun l=>Dp c fun c=>k (.slice (some ⟨b,o,none⟩) l c)
   | a=>k (.slice a l c)
 | .map r=>match r with
   | some r=>Dp r fun r=>k (.map (some r))
   | none=>k (.map none)
 | v=>k v
theorem Wc (v:Value) (k:Value->β):Uo v k=k v:=by
 unfold Uo;split
 ·split
  · exact Dx _ _
  · rfl
 · split <;> rfl
 ·split
  · simp only[Dx]
  · rfl
 ·split
  · simp only[Dx]
  · rfl
 ·split
  · exact Dx _ _
  · rfl
 · rfl
def forceVF (f:Nat):List Value->(List Value->β)->β:=@Nat.rec (fun _=>List Value->(List Value->β)->β) (fun l k=>k l) (fun _ ih l k=>@List.casesOn Value (fun _=>β) l (k []) (fun a r=>Uo a fun a=>ih r fun r=>k (a::r))) f
theorem Wd:∀(f:Nat) (l:List Value) (k:List Value->β),forceVF f l k=k l
 | 0,_,_=>rfl
 | _+1,[],_=>rfl
 | f+1,a::r,k=>(Wc a (fun a=>forceVF f r fun r=>k (a::r))).trans (Wd f r fun r=>k (a::r))
def forceVs (l:List Value) (k:List Value->β):β:=forceVF 1000000000 l k
theorem We (l:List Value) (k:List Value->β):forceVs l k=k l:=Wd 1000000000 l k
def forceV (v:Value) (k:Value->β):β:=match v with
 | .agg c=>match c with
   | ⟨l⟩=>forceVs l fun l=>k (.agg ⟨l⟩)
 | v=>Uo v k
theorem Zn (v:Value) (k:Value->β):forceV v k=k v:=by
 unfold forceV;split
 · exact We _ _
 · exact Wc _ _
end
structure Emb where
 blk:Nat
 rows:Nat
 esz:Nat
abbrev Em:=Nat->Option Emb
def unk:Nat:=2^70
inductive VR (E:Em):Value->Value->Prop where
 | bool (b:Bool):VR E (.bool b) (.bool b)
 | int (k:IntKind) (n:Int):VR E (.int k n) (.int k n)
 | string (s:ByteArray):VR E (.string s) (.string s)
 | ptr0:VR E (.pointer none) (.pointer none)
 | ptr (b o:Nat) (e:Emb):E b=some e->VR E (.pointer (some ⟨b,o,none⟩)) (.pointer (some ⟨e.blk,o,none⟩))
 | slice0 (l c:Nat):VR E (.slice none l c) (.slice none l c)
 | slice (b o l c c':Nat) (e:Emb):E b=some e->(c=c'\/(c=unk/\(e.esz=0\/o+c'*e.esz=e.rows)))->l<=c'->(e.esz=0\/o+c'*e.esz<=e.rows)->c'<unk->VR E (.slice (some ⟨b,o,none⟩) l c) (.slice (some ⟨e.blk,o,none⟩) l c')
 | slice00 (b o c:Nat):VR E (.slice (some ⟨0,0,some 0⟩) 0 unk) (.slice (some ⟨b,o,none⟩) 0 c)
 | map0:VR E (.map none) (.map none)
 | map (r:Nat) (e:Emb):E r=some e->VR E (.map (some r)) (.map (some e.blk))
 | nilFunc:VR E .nilFunc .nilFunc
 | func (fn:Fn) (f f' c c':Array Value):f.size=f'.size->(∀i (h:i<f.size) (h':i<f'.size),VR E f[i] f'[i])->c.size=c'.size->(∀i (h:i<c.size) (h':i<c'.size),VR E c[i] c'[i])->VR E (.func fn f c) (.func fn f' c')
 | nilIface:VR E .nilIface .nilIface
 | iface (t:TypeId) (v v':Value):VR E v v'->VR E (.iface t v) (.iface t v')
 | agg (c c':Array Value):c.size=c'.size->(∀i (h:i<c.size) (h':i<c'.size),VR E c[i] c'[i])->VR E (.agg c) (.agg c')
 | tuple (c c':Array Value):c.size=c'.size->(∀i (h:i<c.size) (h':i<c'.size),VR E c[i] c'[i])->VR E (.tuple c) (.tuple c')
def LR (E:Em):List Value->List Value->Prop
 | [],[]=>True
 | x::xs,y::ys=>VR E x y/\LR E xs ys
 | _,_=>False
def Ext (E E':Em):Prop:=∀b e,E b=some e->E' b=some e
theorem Ext.refl (E:Em):Ext E E:=fun _ _ h=>h
theorem Ext.trans {E F G:Em} (h:Ext E F) (k:Ext F G):Ext E G:=fun b e x=>k b e (h b e x)
section
variable {E E':Em}
theorem VR.ext (d:Ext E E') {v a:Value} (h:VR E v a):VR E' v a:=by
 induction h with
 | bool b=>exact .bool b
 | int k n=>exact .int k n
 | string s=>exact .string s
 | ptr0=>exact .ptr0
 | ptr b o e h=>exact .ptr b o e (d _ _ h)
 | slice0 l c=>exact .slice0 l c
 | slice b o l c c' e h h1 h2 h3 h4=>exact .slice b o l c c' e (d _ _ h) h1 h2 h3 h4
 | slice00 b o c=>exact .slice00 b o c
 | map0=>exact .map0
 | map r e h=>exact .map r e (d _ _ h)
 | nilFunc=>exact .nilFunc
 | func fn f f' c c' h1 _ h2 _ i1 i2=>exact .func fn f f' c c' h1 i1 h2 i2
 | nilIface=>exact .nilIface
 | iface t v a _ i=>exact .iface t v a i
 | agg c c' h _ i=>exact .agg c c' h i
 | tuple c c' h _ i=>exact .tuple c c' h i
theorem LR.length:∀ {xs a:List Value},LR E xs a->xs.length=a.length
 | [],[],_=>rfl
 | _::_,_::_,h=>by simp[LR.length h.2]
 | [],_::_,h=>h.elim
 | _::_,[],h=>h.elim
theorem LR.at:∀ {xs c:List Value},LR E xs c->∀(i:Nat) (x:Value),xs[i]? =some x->∃y,c[i]? =some y/\VR E x y
 | [],[],_,i,x,hx=>by simp at hx
 |a::xs,b::c,h,i,x,hx=>by
  cases i with
  | zero=>simp at hx;subst hx;exact⟨b,rfl,h.1⟩
  | succ i=>simpa using LR.at h.2 i x (by simpa using hx)
 | [],_::_,h,_,_,_=>h.elim
 | _::_,[],h,_,_,_=>h.elim
theorem LR.of_at:∀ {xs c:List Value},xs.length=c.length->(∀(i:Nat) (x y:Value),xs[i]? =some x->c[i]? =some y->VR E x y)->LR E xs c
 | [],[],_,_=>trivial
 | a::xs,b::c,hl,h=>⟨h 0 a b rfl rfl,LR.of_at (by simpa using hl) fun i x y hx hy=>h (i+1) x y (by simpa using hx) (by simpa using hy)⟩
 | [],_::_,hl,_=>by simp at hl
 | _::_,[],hl,_=>by simp at hl
theorem LR.ext (a:Ext E E'):∀ {xs b:List Value},LR E xs b->LR E' xs b
 | [],[],_=>trivial
 | _::_,_::_,h=>⟨h.1.ext a,LR.ext a h.2⟩
 | [],_::_,h=>h.elim
 | _::_,[],h=>h.elim
theorem LR.append:∀ {xs c a b:List Value},LR E xs c->LR E a b->LR E (xs++a) (c++b)
 | [],[],_,_,_,h=>h
 | _::_,_::_,_,_,h,k=>⟨h.1,LR.append h.2 k⟩
 | [],_::_,_,_,h,_=>h.elim
 | _::_,[],_,_,h,_=>h.elim
theorem LR.take:∀ {xs a:List Value} (n:Nat),LR E xs a->LR E (xs.take n) (a.take n)
 | [],[],n,_=>by simp[LR]
 | _::_,_::_,0,_=>by simp[LR]
 | _::_,_::_,n+1,h=>⟨h.1,LR.take n h.2⟩
 | [],_::_,_,h=>h.elim
 | _::_,[],_,h=>h.elim
theorem LR.drop:∀ {xs a:List Value} (n:Nat),LR E xs a->LR E (xs.drop n) (a.drop n)
 | [],[],n,_=>by simp[LR]
 | _::_,_::_,0,h=>h
 | _::_,_::_,n+1,h=>LR.drop n h.2
 | [],_::_,_,h=>h.elim
 | _::_,[],_,h=>h.elim
theorem LR.replicate {x y:Value} (h:VR E x y):∀n,LR E (List.replicate n x) (List.replicate n y)
 | 0=>trivial
 | n+1=>⟨h,LR.replicate h n⟩
theorem Fe {c c':Array Value} (h:c.size=c'.size) (k:∀i (h:i<c.size) (g:i<c'.size),VR E c[i] c'[i]):LR E c.toList c'.toList:=
 LR.of_at (by simpa using h) fun i x y a b=>by
  simp only[Array.getElem?_toList]at a b;obtain⟨d,rfl⟩:=Array.getElem?_eq_some_iff.1 a;obtain⟨e,rfl⟩:=Array.getElem?_eq_some_iff.1 b;exact k i d e
theorem Fy {c c':Array Value} (h:LR E c.toList c'.toList):c.size=c'.size/\∀i (h:i<c.size) (e:i<c'.size),VR E c[i] c'[i]:=by
 refine⟨by simpa using h.length,fun i b g=>?_⟩;obtain⟨y,a,d⟩:=h.at i c[i] (by simp[b]);simp only[Array.getElem?_toList]at a;obtain⟨_,rfl⟩:=Array.getElem?_eq_some_iff.1 a;exact d
theorem VR.agg' {c c':Array Value} (h:LR E c.toList c'.toList):VR E (.agg c) (.agg c'):=.agg c c' (Fy h).1 (Fy h).2
theorem VR.tuple' {c c':Array Value} (h:LR E c.toList c'.toList):VR E (.tuple c) (.tuple c'):=.tuple c c' (Fy h).1 (Fy h).2
theorem VR.func' {fn:Fn} {f f' c c':Array Value} (h:LR E f.toList f'.toList) (k:LR E c.toList c'.toList):VR E (.func fn f c) (.func fn f' c'):=
 .func fn f f' c c' (Fy h).1 (Fy h).2 (Fy k).1 (Fy k).2
theorem VR.agg_inv {c:Array Value} {v:Value} (h:VR E (.agg c) v):∃c',v=.agg c'/\LR E c.toList c'.toList:=by
 cases h with
 | agg c c' h k=>exact⟨c',rfl,Fe h k⟩
theorem VR.tuple_inv {c:Array Value} {v:Value} (h:VR E (.tuple c) v):∃c',v=.tuple c'/\LR E c.toList c'.toList:=by
 cases h with
 | tuple c c' h k=>exact⟨c',rfl,Fe h k⟩
theorem VR.func_inv {fn:Fn} {f c:Array Value} {v:Value} (h:VR E (.func fn f c) v):∃f' c',v=.func fn f' c'/\LR E f.toList f'.toList/\LR E c.toList c'.toList:=by
 cases h with
 | func fn f f' c c' h k h' k'=>exact⟨f',c',rfl,Fe h k,Fe h' k'⟩
theorem VR.undef:VR E undef undef:=VR.tuple' (c:=#[]) (c':=#[]) trivial
theorem VR.cells {v a:Value} (h:VR E v a):LR E v.cells.toList a.cells.toList:=by
 cases h with
 | agg c c' h k=>exact Fe h k
 | _=>exact⟨by first | exact .bool _ | exact .int _ _ | exact .string _ | exact .ptr0 | exact .ptr _ _ _ ‹_› | exact .slice0 _ _ | exact .slice00 _ _ _ | exact .slice _ _ _ _ _ _ ‹_› ‹_› ‹_› ‹_› ‹_› | exact .map0 | exact .map _ _ ‹_› | exact .nilFunc | exact .func _ _ _ _ _ ‹_› ‹_› ‹_› ‹_› | exact .nilIface | exact .iface _ _ _ ‹_› | exact .tuple _ _ ‹_› ‹_›,trivial⟩
theorem VR.one {v a:Value} (h:VR E v a):a.oneCell'=v.oneCell':=by cases h <;> rfl
def Fz:Value->Bool
 | .bool _ | .int _ _ | .string _ | .pointer none | .slice none _ _ | .map none | .nilFunc | .nilIface=>true
 | .func _ f c=>f.isEmpty&&c.isEmpty
 | _=>false
def bare1:Value->Bool
 | .agg c | .tuple c=>c.toList.all Fz
 | .iface _ v=>Fz v
 | v=>Fz v
def bare:Value->Bool
 | .agg c | .tuple c=>c.toList.all bare1
 | .iface _ v=>bare1 v
 | v=>Fz v
theorem Ee {xs a:List Value} (h:LR E xs a) (b:∀x∈xs,∀y,VR E x y->y=x):a=xs:=by
 induction xs generalizing a with
 |nil=>cases a with
  | nil=>rfl
  | cons=>exact h.elim
 |cons x xs ih=>cases a with
  | nil=>exact h.elim
  | cons y a=>rw[b x (by simp) y h.1,ih h.2 fun z c=>b z (by simp[c])]
theorem Mb {v b:Value} (a:Fz v=true) (h:VR E v b):b=v:=by
 cases h with
 |func fn f f' c c' h1 k1 h2 k2=>
  simp only[Fz,Bool.and_eq_true,Array.isEmpty_iff]at a;obtain⟨rfl,rfl⟩:=a;have d:f'=#[]:=Array.eq_empty_of_size_eq_zero (by simpa using h1.symm);have e:c'=#[]:=Array.eq_empty_of_size_eq_zero (by simpa using h2.symm);subst d;subst e;rfl
 | _=>first | rfl | (simp [Fz]at a)
theorem Vb {v g:Value} (a:bare1 v=true) (h:VR E v g):g=v:=by
 have i:=h;cases h with
 |agg c c' h1 k1=>
  have e:=Ee (Fe h1 k1) fun x b y d=>Mb (List.all_eq_true.1 a x b) d;rw[Array.toList_inj.1 e]
 |tuple c c' h1 k1=>
  have e:=Ee (Fe h1 k1) fun x b y d=>Mb (List.all_eq_true.1 a x b) d;rw[Array.toList_inj.1 e]
 | iface t v g h=>rw[Mb (v:=v) a h]
 | _=>exact Mb a i
theorem Pp {v g:Value} (a:bare v=true) (h:VR E v g):g=v:=by
 have i:=h;cases h with
 |agg c c' h1 k1=>
  have e:=Ee (Fe h1 k1) fun x b y d=>Vb (List.all_eq_true.1 a x b) d;rw[Array.toList_inj.1 e]
 |tuple c c' h1 k1=>
  have e:=Ee (Fe h1 k1) fun x b y d=>Vb (List.all_eq_true.1 a x b) d;rw[Array.toList_inj.1 e]
 | iface t v g h=>rw[Vb (v:=v) a h]
 | _=>exact Mb a i
theorem LR.self {xs:List Value} (h:∀x∈xs,VR E x x):LR E xs xs:=by
 induction xs with
 | nil=>trivial
 | cons x xs ih=>exact⟨h x (by simp),ih fun y a=>h y (by simp[a])⟩
theorem Hd (v:Value) (d:Fz v=true):VR E v v:=by
 cases v with
 | bool b=>exact .bool b
 | int k n=>exact .int k n
 | string s=>exact .string s
 |pointer a=>cases a with
  | none=>exact .ptr0
  | some a=>simp[Fz]at d
 |slice a l c=>cases a with
  | none=>exact .slice0 l c
  | some a=>simp[Fz]at d
 |map r=>cases r with
  | none=>exact .map0
  | some a=>simp[Fz]at d
 | nilFunc=>exact .nilFunc
 | nilIface=>exact .nilIface
 |func fn f c=>
  simp only[Fz,Bool.and_eq_true,Array.isEmpty_iff]at d;obtain⟨rfl,rfl⟩:=d;exact VR.func' trivial trivial
 | _=>simp[Fz]at d
theorem Ot (v:Value) (a:bare1 v=true):VR E v v:=by
 cases v with
 | agg c=>exact VR.agg' (LR.self fun x b=>Hd x (List.all_eq_true.1 a x b))
 | tuple c=>exact VR.tuple' (LR.self fun x b=>Hd x (List.all_eq_true.1 a x b))
 | iface t v=>exact .iface t v v (Hd v a)
 | _=>exact Hd _ a
theorem Du (v:Value) (a:bare v=true):VR E v v:=by
 cases v with
 | agg c=>exact VR.agg' (LR.self fun x b=>Ot x (List.all_eq_true.1 a x b))
 | tuple c=>exact VR.tuple' (LR.self fun x b=>Ot x (List.all_eq_true.1 a x b))
 | iface t v=>exact .iface t v v (Ot v a)
 | _=>exact Hd _ a
end
end Cx
namespace Cx
open Go
inductive AObj where
 | row (cells:List Value) (elem:TypeId) (esz:Nat)
 | map (es:List MapEntry) (clock:Nat)
abbrev Hp:=Nat->Option AObj
def ER (E:Em) (a b:MapEntry):Prop:=a.key=b.key/\bare a.key=true/\VR E a.val b.val/\a.born=b.born
def ELR (E:Em):List MapEntry->List MapEntry->Prop
 | [],[]=>True
 | x::xs,y::ys=>ER E x y/\ELR E xs ys
 | _,_=>False
theorem ELR.ext {E a:Em} (b:Ext E a):∀ {xs c:List MapEntry},ELR E xs c->ELR a xs c
 | [],[],_=>trivial
 | _::_,_::_,h=>⟨⟨h.1.1,h.1.2.1,h.1.2.2.1.ext b,h.1.2.2.2⟩,ELR.ext b h.2⟩
 | [],_::_,h=>h.elim
 | _::_,[],h=>h.elim
def OR (E:Em) (e:Emb):AObj->Option Obj->Prop
 | .row cs t z,o=>e.esz=z/\∃cur fz,o=some (.cells cur t fz)/\cur.size=e.rows/\(fz.2=0\/cur.size<=fz.1)/\cs.length<=cur.size/\LR E cs (cur.toList.take cs.length)
 | .map es c,o=>∃es',o=some (.map es' c)/\ELR E es es'.toList
theorem OR.ext {E j:Em} (l:Ext E j) {e:Emb} {a:AObj} {o:Option Obj} (h:OR E e a o):OR j e a o:=by
 cases a with
 |row cs t z=>
  obtain⟨q,b,fz,g,i,m,n,p⟩:=h;exact⟨q,b,fz,g,i,m,n,p.ext l⟩
 |map es c=>
  obtain⟨d,g,i⟩:=h;exact⟨d,g,i.ext l⟩
structure HR (E:Em) (h:Hp) (w:World):Prop where
 here:∀b o,h b=some o->∃e,E b=some e/\OR E e o (w.heap[e.blk]?)
 inj:∀b c o o' e e',h b=some o->h c=some o'->E b=some e->E c=some e'->e.blk=e'.blk->b=c
theorem OR.some {E:Em} {e:Emb} {a:AObj} {o:Option Obj} (h:OR E e a o):∃x,o=some x:=by
 cases a with
 | row cs t z=>obtain⟨_,d,fz,b,_⟩:=h;exact⟨_,b⟩
 | map es c=>obtain⟨g,b,_⟩:=h;exact⟨_,b⟩
theorem HR.lt {E:Em} {h:Hp} {w:World} (H:HR E h w) {b:Nat} {o:AObj} {e:Emb} (c:h b=some o) (d:E b=some e):e.blk<w.heap.size:=by
 obtain⟨j,a,g⟩:=H.here b o c;rw[d]at a;cases a
 obtain⟨x,i⟩:=g.some;exact (qd i)
theorem HR.sub {E:Em} {h g:Hp} {w:World} (H:HR E h w) (d:∀b o,g b=some o->h b=some o):HR E g w:=
 ⟨fun b o a=>H.here b o (d b o a),fun b c o i e j a l=>H.inj b c o i e j (d b o a) (d c i l)⟩
structure Tx (E:Em) (h:Hp) (w:World) (n:Nat) (E':Em) (h':Hp) (w':World) (n':Nat) (l:List Nat):Prop where
 le:n<=n'
 ext:Ext E E'
 dom:∀b e,E' b=some e->E b=some e\/(n<=b/\b<n')
 hr:HR E' h' w'
 keep:∀b,b<n\/n'<=b->b∉l->h' b=h b
 domle:∀b o,h' b=some o->(∃o',h b=some o')\/(n<=b/\b<n')
 news:∀b o e,n<=b->b<n'->h' b=some o->E' b=some e->w.heap.size<=e.blk\/∃c o' e',h c=some o'/\E c=some e'/\e'.blk=e.blk
 frame:∀k,k<w.heap.size->(∀b o e,h b=some o->E b=some e->e.blk≠k)->w'.heap[k]? =w.heap[k]?
 size:w.heap.size<=w'.heap.size
 os:w'.os=w.os
 tape:w'.tape=w.tape
 output:w'.output=w.output
theorem Tx.refl {E:Em} {h:Hp} {w:World} (n:Nat) (H:HR E h w):Tx E h w n E h w n []:=
 ⟨ql,.refl E,fun _ _ h=>.inl h,H,fun _ _ _=>rfl,fun _ o h=>.inl ⟨o,h⟩,fun _ _ _ a b=>absurd (Nat.lt_of_le_of_lt a b) (Nat.lt_irrefl _),fun _ _ _=>rfl,ql,rfl,rfl,rfl⟩
theorem Tx.trans {E N O:Em} {h t u:Hp} {w S T:World} {n n1 R:Nat} {l l1:List Nat}
  (A:Tx E h w n N t S n1 l) (B:Tx N t S n1 O u T R l1):Tx E h w n O u T R (l1++l):=by
 have W:=A.le;have X:=B.le;refine⟨Nat.le_trans A.le B.le,A.ext.trans B.ext,?_,B.hr,?_,?_,?_,?_,Nat.le_trans A.size B.size,B.os.trans A.os,B.tape.trans A.tape,B.output.trans A.output⟩
 ·intro b e a
  rcases B.dom b e a with a | a
  ·rcases A.dom b e a with a | a
   · exact .inl a
   · exact .inr ⟨a.1,by omega⟩
  · exact .inr ⟨by omega,a.2⟩
 ·intro b a L
  simp only[List.mem_append,not_or]at L;rw[B.keep b (by omega) L.1,A.keep b (by omega) L.2]
 ·intro b o a
  rcases B.domle b o a with ⟨i,a⟩ | a
  ·rcases A.domle b i a with a | a
   · exact .inl a
   · exact .inr ⟨a.1,by omega⟩
  · exact .inr ⟨by omega,a.2⟩
 ·intro b o e G I a q
  by_cases hlt:b<n1
  ·rcases B.domle b o a with ⟨i,M⟩ | g
   ·rcases B.dom b e q with K | g
    · exact A.news b i e G hlt M K
    · omega
   · omega
  ·rcases B.news b o e (by omega) I a q with g | ⟨c,i,p,P,r,d⟩
   · exact .inl (Nat.le_trans A.size g)
   ·by_cases hcn:n<=c/\c<n1
    ·rcases A.news c i p hcn.1 hcn.2 P r with g | ⟨U,m,x,t,u,V⟩
     · exact .inl (d▸g)
     · exact .inr ⟨U,m,x,t,u,V.trans d⟩
    ·rcases A.domle c i P with ⟨m,J⟩ | g
     ·rcases A.dom c p r with hec' | g
      · exact .inr ⟨c,m,p,J,hec',d⟩
      · exact absurd g hcn
     · exact absurd g hcn
 ·intro k Q j
  rw[B.frame k (Nat.lt_of_lt_of_le Q A.size) ?_,A.frame k Q j];intro b o e a q d;by_cases hbn:n<=b/\b<n1
  ·rcases A.news b o e hbn.1 hbn.2 a q with g | ⟨c,i,p,y,z,C⟩
   · omega
   · exact j c i p y z (C.trans d)
  ·rcases A.domle b o a with ⟨i,D⟩ | g
   ·rcases A.dom b e q with he' | g
    · exact j b i e D he' d
    · exact hbn g
   · exact hbn g
theorem HR.world {E:Em} {h:Hp} {w a:World} (H:HR E h w) (d:a.heap=w.heap):HR E h a:=
 ⟨fun b o c=>by rw[d];exact H.here b o c,H.inj⟩
theorem Tx.drewL {E a:Em} {h b:Hp} {w c:World} {n n':Nat} {l:List Nat} {d:Nat} (A:Tx E h {w with drawn:=d} n a b c n' l):Tx E h w n a b c n' l:=
 ⟨A.le,A.ext,A.dom,A.hr,A.keep,A.domle,A.news,A.frame,A.size,A.os,A.tape,A.output⟩
theorem Tx.weaken {E a:Em} {h c:Hp} {w e:World} {n n':Nat} {l d:List Nat} (A:Tx E h w n a c e n' l) (i:∀b∈l,b∈d):Tx E h w n a c e n' d:=
 ⟨A.le,A.ext,A.dom,A.hr,fun b g j=>A.keep b g fun m=>j (i b m),A.domle,A.news,A.frame,A.size,A.os,A.tape,A.output⟩
def upd (h:Hp) (n:Nat) (o:Option AObj):Hp:=fun b=>if b=n then o else h b
def updE (E:Em) (n:Nat) (e:Emb):Em:=fun b=>if b=n then some e else E b
theorem updE_ext {E:Em} {n:Nat} {e:Emb} (c:E n=none):Ext E (updE E n e):=by
 intro b g a;unfold updE;split
 · rename_i d;subst d;rw[c]at a;cases a
 · exact a
theorem Tx.new {E:Em} {h:Hp} {w:World} {n:Nat} (H:HR E h w) (G:E n=none) {e:Emb} (K:e.blk=w.heap.size) {a:AObj} {o:Obj} (N:OR E e a (some o)):
  Tx E h w n (updE E n e) (upd h n (some a)) {w with heap:=w.heap.push o} (n+1) []:=by
 have l:Ext E (updE E n e):=updE_ext G;have q:∀b m p,h b=some m->E b=some p->p.blk<w.heap.size:=fun b m p d y=>H.lt d y;have L:∀m,h n≠some m:=fun m B=>by obtain⟨p,g,_⟩:=H.here n m B;rw[G]at g;cases g
 refine⟨Nat.le_succ n,l,?_,⟨?_,?_⟩,?_,?_,?_,?_,by simp,rfl,rfl,rfl⟩
 ·intro b p d
  unfold updE at d;split at d
  · exact .inr (by omega)
  · exact .inl d
 ·intro b m d
  unfold upd at d;split at d
  ·rename_i B
   subst B;cases d
   refine⟨e,by simp[updE],?_⟩;rw[K];simpa using N.ext l
  ·obtain⟨p,g,A⟩:=H.here b m d
   refine⟨p,l _ _ g,?_⟩;have z:=H.lt d g;have:(w.heap.push o)[p.blk]? =w.heap[p.blk]? :=by simp[Array.getElem?_push,Nat.ne_of_lt z]
   simp only[this];exact A.ext l
 ·intro b c I J C D d x i j u
  unfold upd at d x;unfold updE at i j;split at d <;> split at x
  · omega
  ·rename_i r t
   rw[if_pos r]at i;rw[if_neg t]at j;cases i
   have:=q c J D x j;omega
  ·rename_i r t
   rw[if_neg r]at i;rw[if_pos t]at j;cases j
   have:=q b I C d i;omega
  ·rename_i r t
   rw[if_neg r]at i;rw[if_neg t]at j;exact H.inj b c I J C D d x i j u
 ·intro b d _
  unfold upd;rw[if_neg (by omega)]
 ·intro b m d
  unfold upd at d;split at d
  · exact .inr (by omega)
  · exact .inl ⟨m,d⟩
 ·intro b m p r t _ g
  have:b=n:=by omega
  subst this;simp[updE]at g;subst g;exact .inl (by omega)
 ·intro k M _
  simp[Array.getElem?_push,Nat.ne_of_lt M]
theorem Tx.put {E:Em} {h:Hp} {w:World} {n b:Nat} (H:HR E h w) {e:Emb} (r:E b=some e) {j a:AObj} (l:h b=some j) {o:Obj} (Q:OR E e a (some o)):
  Tx E h w n E (upd h b (some a)) {w with heap:=w.heap.setIfInBounds e.blk o} n [b]:=by
 have D:=H.lt l r;refine⟨Nat.le_refl n,.refl E,fun _ _ h=>.inl h,⟨?_,?_⟩,?_,?_,fun _ _ _ M N=>absurd (Nat.lt_of_le_of_lt M N) (Nat.lt_irrefl _),?_,by simp,rfl,rfl,rfl⟩
 ·intro c t g
  unfold upd at g;split at g
  ·rename_i i
   subst i;cases g
   exact⟨e,r,by simpa [D] using Q⟩
  ·rename_i i
   obtain⟨x,p,I⟩:=H.here c t g;refine⟨x,p,?_⟩;have G:e.blk≠x.blk:=fun R=>i (H.inj c b t j x e g l p r R.symm);simpa [Array.getElem?_setIfInBounds_ne G] using I
 ·intro c d u S K L g J A B m
  unfold upd at g J;have q:∀c u,(if c=b then some a else h c)=some u->∃o,h c=some o:=by
   intro c u g;by_cases i:c=b
   · exact⟨j,by rw[i];exact l⟩
   · rw[if_neg i]at g;exact⟨_,g⟩
  have y:=q c u g;have z:=q d S J;obtain⟨T,O⟩:=y;obtain⟨U,P⟩:=z;exact H.inj c d T U K L O P A B m
 ·intro c _ g
  unfold upd;rw[if_neg (by simpa using g)]
 ·intro c t g
  unfold upd at g;split at g
  · rename_i i;exact .inl ⟨j,by rw[i];exact l⟩
  · exact .inl ⟨t,g⟩
 ·intro k _ C
  exact Array.getElem?_setIfInBounds_ne (C b j e l r)
theorem Tx.letgo {E:Em} {h:Hp} {w:World} {n b:Nat} (H:HR E h w) {e:Emb} (B:E b=some e) {p:AObj} (A:h b=some p) (o:Obj):
  Tx E h w n E (upd h b none) {w with heap:=w.heap.setIfInBounds e.blk o} n [b]:=by
 have g:∀c j,upd h b none c=some j->c≠b/\h c=some j:=by
  intro c j a;unfold upd at a;split at a
  · cases a
  · rename_i z;exact⟨z,a⟩
 refine⟨Nat.le_refl n,.refl E,fun _ _ h=>.inl h,⟨?_,?_⟩,?_,?_,fun _ _ _ I J=>absurd (Nat.lt_of_le_of_lt I J) (Nat.lt_irrefl _),?_,by simp,rfl,rfl,rfl⟩
 ·intro c i a
  obtain⟨z,a⟩:=g c i a;obtain⟨q,m,y⟩:=H.here c i a;refine⟨q,m,?_⟩;have x:e.blk≠q.blk:=fun L=>z (H.inj c b i p q e a A m B L.symm);simpa [Array.getElem?_setIfInBounds_ne x] using y
 ·intro c d j C D G a K r t l
  exact H.inj c d j C D G (g c j a).2 (g d C K).2 r t l
 ·intro c _ a
  unfold upd;rw[if_neg (by simpa using a)]
 ·intro c i a
  exact .inl ⟨i,(g c i a).2⟩
 ·intro k _ u
  exact Array.getElem?_setIfInBounds_ne (u b p e A B)
theorem Tx.take {E:Em} {h:Hp} {w:World} {n b:Nat} (H:HR E h w) (P:E n=none) {e:Emb} (q:E b=some e) {A a:AObj} (B:h b=some A) {o:Obj} (R:OR E e a (some o)):
  Tx E h w n (updE E n e) (upd (upd h b none) n (some a)) {w with heap:=w.heap.setIfInBounds e.blk o} (n+1) [b]:=by
 have i:Ext E (updE E n e):=updE_ext P;have L:=H.lt B q;have Q:b≠n:=fun x=>by subst x;rw[P]at q;cases q
 refine⟨Nat.le_succ n,i,?_,⟨?_,?_⟩,?_,?_,?_,?_,by simp,rfl,rfl,rfl⟩
 ·intro c C g
  unfold updE at g;split at g
  · exact .inr (by omega)
  · exact .inl g
 ·intro c D g
  unfold upd at g;split at g
  ·rename_i x
   subst x;cases g
   refine⟨e,by simp[updE],?_⟩;simpa [L] using R.ext i
  ·split at g
   · cases g
   ·rename_i _ x
    obtain⟨C,m,N⟩:=H.here c D g;refine⟨C,i _ _ m,?_⟩;have M:e.blk≠C.blk:=fun S=>x (H.inj c b D A C e g B m q S.symm);simpa [Array.getElem?_setIfInBounds_ne M] using N.ext i
 ·have y:∀c z r,upd (upd h b none) n (some a) c=some z->updE E n e c=some r->c≠n->c≠b/\h c=some z/\E c=some r:=by
   intro c z r g u l;unfold upd at g;rw[if_neg l]at g;unfold updE at u;rw[if_neg l]at u;split at g
   · cases g
   · rename_i x;exact⟨x,g,u⟩
  intro c d z I r G g O t p j;by_cases l:c=n
  ·by_cases hdn:d=n
   · omega
   ·obtain⟨k1,k2,k3⟩:=y d I G O p hdn
    subst l;simp[updE]at t;subst t;exact absurd (H.inj b d A I e G B k2 q k3 j).symm k1
  ·obtain⟨k1,k2,k3⟩:=y c z r g t l
   by_cases hdn:d=n
   ·subst hdn
    simp[updE]at p;subst p;exact absurd (H.inj c b z A r e k2 B k3 q j) k1
   ·obtain⟨_,T,U⟩:=y d I G O p hdn
    exact H.inj c d z I r G k2 T k3 U j
 ·intro c g J
  unfold upd;rw[if_neg (by omega),if_neg (by simpa using J)]
 ·intro c D g
  unfold upd at g;split at g
  · exact .inr (by omega)
  ·split at g
   · cases g
   · exact .inl ⟨D,g⟩
 ·intro c D C V W _ m
  have:c=n:=by omega
  subst this;simp[updE]at m;subst m;exact .inr ⟨b,A,e,B,q,rfl⟩
 ·intro k _ K
  exact Array.getElem?_setIfInBounds_ne (K b A e B q)
end Cx
end Go.Proofs.YtjefcpjciogcjaaGreatDoor
