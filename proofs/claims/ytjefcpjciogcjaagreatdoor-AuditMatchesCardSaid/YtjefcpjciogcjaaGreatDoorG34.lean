/- Lemmas for the walk of the law, in 3 parts. No condition beyond what each states. -/
import Derived.Test.YtjefcpjciogcjaaGreatDoorG33
import Derived.WalkKit
import Derived.Orders
import Derived.Lib.Builder
import Derived.Lib.UnsafeStr
namespace Go.Proofs.YtjefcpjciogcjaaGreatDoor
set_option maxRecDepth 100000
set_option linter.unusedVariables false
namespace Cx
open Go
theorem Db {P:Program} {α:Type}:∀(s:Sem α) (a:α),Ds P s=some a->∀w,s.run P w=.ok a w:=by
 intro s
 induction s with
 | pure b=>intro a h w;simp only[Ds,Option.some.injEq]at h;subst h;rfl
 | program k ih=>intro a h w;simp only[Ds]at h;simp only[Sem.run];exact ih P a h w
 | mark m k ih=>intro a h w;simp only[Ds]at h;simp only[Sem.run];exact ih a h w
 | _=>intro a h;simp[Ds]at h
structure TR (E:Em) (f:AF) (a:Act):Prop where
 size:a.tmps.size=f.size
 get:∀t,VR E (f.get t) (a.tmps.getD t undef)
def GL (E:Em) (G:Gl):Prop:=∀g∈G.vars,∃e,E g=some e/\e.blk=g
theorem Vz {E:Em} {G:Gl} {f:AF} {a:Act} (T:TR E f a) (L:GL E G) {x:Operand} (h:okOp G x=true):VR E (ev f x) (a.eval x):=by
 cases x with
 | tmp t=>exact T.get t
 | const v=>exact Du v h
 |global g=>
  obtain⟨e,c,b⟩:=L g (by simpa [okOp] using h);have:=VR.ptr g 0 e c;rw[b]at this;exact this
 | func g=>exact VR.func' trivial trivial
section
variable {P:Program} {E:Em}
theorem Cg {t n:Nat} (h:Fa P t=some n) (w:World):(sizeOf t).run P w=.ok n w:=by
 unfold Fa at h;split at h
 · rename_i i hi;cases h;simp[sizeOf,typeInfo,hi]
 · cases h
theorem Pl {t:Nat} {b:Bool} (h:aggT P t=some b) (w:World):(isAgg t).run P w=.ok b w:=by
 unfold aggT at h;split at h <;> first | cases h | skip
 · rename_i a;simp[isAgg,run_underlying a]
 · rename_i a;simp[isAgg,run_underlying a]
 ·rename_i d c e a
  simp only[isAgg,Sem.run_bind,run_underlying a,Result.andThen];cases d <;> first | rfl | exact absurd a (c _) | exact absurd a (e _ _)
theorem lr_extract {c c':Array Value} (h:LR E c.toList c'.toList) (i j:Nat):LR E (c.extract i j).toList (c'.extract i j).toList:=by
 simp only[Array.toList_extract];exact (h.drop i).take _
theorem lr_get {c c':Array Value} (h:LR E c.toList c'.toList) {i:Nat} {v:Value} (a:c[i]? =some v):∃v',c'[i]? =some v'/\VR E v v':=by
 have:=h.at i v (by simpa using a);simpa using this
theorem partA_run {t off:Nat} {cs a:Array Value} {v:Value} (h:partA P t cs off=some v) (d:LR E cs.toList a.toList):
  ∃v',VR E v v'/\∀w,(part t a off).run P w=.ok v' w:=by
 unfold partA at h;split at h
 ·rename_i b
  split at h
  ·rename_i n e
   split at h
   ·cases h
    exact⟨_,VR.agg' (lr_extract d _ _),fun w=>by simp[part,Pl b,Cg e]⟩
   · cases h
  · cases h
 ·rename_i b
  obtain⟨v',c,hr⟩:=lr_get d h;exact⟨v',hr,fun w=>by simp[part,Pl b,c]⟩
 · cases h
theorem Ic {i:Int} {n j:Nat} (h:Nl i n=some j):i=(j:Int)/\j<n:=by
 unfold Nl at h;split at h
 ·rename_i m
  split at h
  · rename_i a;cases h;exact⟨rfl,by simpa [Nat.blt_eq] using a⟩
  · cases h
 · cases h
theorem Il {i:Int} {n j:Nat} (h:upTo i n=some j):i=(j:Int)/\j<=n:=by
 unfold upTo at h;split at h
 ·rename_i m
  split at h
  · rename_i a;cases h;exact⟨rfl,by simpa using a⟩
  · cases h
 · cases h
theorem Hc (b o n:Nat):(⟨b,o,none⟩:Addr).add n=⟨b,o+n,none⟩:=by
 unfold Addr.add;split
 · rename_i h;subst h;rfl
 · rfl
theorem Fq {b o:Nat} {v:Value} (h:VR E (.pointer (some ⟨b,o,none⟩)) v):∃e,E b=some e/\v=.pointer (some ⟨e.blk,o,none⟩):=by
 cases h with
 | ptr b o e he=>exact⟨e,he,rfl⟩
theorem Hj {b o l c:Nat} {v:Value} (h:VR E (.slice (some ⟨b,o,none⟩) l c) v):∃e c',E b=some e/\v=.slice (some ⟨e.blk,o,none⟩) l c'/\(c=c'\/(c=unk/\(e.esz=0\/o+c'*e.esz=e.rows)))/\l<=c'/\(e.esz=0\/o+c'*e.esz<=e.rows)/\c'<unk:=by
 cases h with
 | slice b o l c c' e he h1 h2 h3 h4=>exact⟨e,c',he,rfl,h1,h2,h3,h4⟩
theorem Eh {k:IntKind} {n:Int} {v:Value} (h:VR E (.int k n) v):v=.int k n:=by cases h;rfl
theorem Eo {s:ByteArray} {v:Value} (h:VR E (.string s) v):v=.string s:=by cases h;rfl
theorem Im {b:Bool} {v:Value} (h:VR E (.bool b) v):v=.bool b:=by cases h;rfl
theorem Jb {l c:Nat} {v:Value} (h:VR E (.slice none l c) v):v=.slice none l c:=by cases h;rfl
theorem Wa {t i:Nat} {x c v:Value} (h:Oy P t x i=some v) (m:VR E x c):
  ∃v',VR E v v'/\∀w,(Instr.fieldAt t c i).run P w=.ok v' w:=by
 unfold Oy at h;split at h
 ·rename_i p b o l
  split at h
  ·rename_i d a
   split at h
   ·rename_i n j
    cases h
    obtain⟨e,g,rfl⟩:=Fq m;refine⟨_,VR.ptr b (o+d.offset) e g,fun w=>?_⟩;simp[Instr.fieldAt,run_underlying l,a,Instr.sureAddr,fieldPlace,Cg j,Hc]
   · cases h
  · cases h
 · cases h
theorem Wh {t:Nat} {x u r d v:Value} (h:Oz P t x r=some v) (q:VR E x u) (hi:VR E r d):
  ∃v',VR E v v'/\∀w,(Instr.indexAt t u d).run P w=.ok v' w:=by
 unfold Oz at h;split at h
 ·rename_i el b o n c k i m
  split at h
  ·rename_i j z l p
   cases h
   obtain⟨e,y,g,rfl,_⟩:=Hj q;obtain rfl:=Eh hi;obtain⟨rfl,a⟩:=Ic l;refine⟨_,VR.ptr b (o+j*z) e g,fun w=>?_⟩;simp[Instr.indexAt,asIntOf,run_underlying m,a,Cg p,Hc]
  · cases h
 ·rename_i n el b o k i m
  split at h
  ·rename_i j z l p
   cases h
   obtain⟨e,g,rfl⟩:=Fq q;obtain rfl:=Eh hi;obtain⟨rfl,a⟩:=Ic l;refine⟨_,VR.ptr b (o+j*z) e g,fun w=>?_⟩;simp[Instr.indexAt,Instr.sureAddr,asIntOf,run_underlying m,a,Cg p,Hc]
  · cases h
 · cases h
theorem fieldA_run {t i:Nat} {x b v:Value} (h:fieldA P t x i=some v) (j:VR E x b):
  ∃v',VR E v v'/\∀w,(Instr.field t b i).run P w=.ok v' w:=by
 unfold fieldA at h;split at h
 ·rename_i n l e
  split at h
  ·rename_i m a
   obtain⟨c,rfl,d⟩:=j.agg_inv;obtain⟨v',g,hr⟩:=partA_run h d;exact⟨v',g,fun w=>by simp[Instr.field,run_underlying e,a,asAgg,hr]⟩
  · cases h
 · cases h
theorem indexA_run {t:Nat} {x d c a v:Value} (h:indexA P t x c=some v) (p:VR E x d) (hi:VR E c a):
  ∃v',VR E v v'/\∀w,(Instr.index t d a).run P w=.ok v' w:=by
 unfold indexA at h;split at h
 ·rename_i n el r k i m
  split at h
  ·rename_i j z l q
   obtain⟨e,rfl,g⟩:=p.agg_inv;obtain rfl:=Eh hi;obtain⟨rfl,b⟩:=Ic l;obtain⟨v',o,hr⟩:=partA_run h g;exact⟨v',o,fun w=>by simp[Instr.index,asIntOf,run_underlying m,b,Cg q,hr]⟩
  · cases h
 · cases h
end
end Cx
namespace Cx
open Go
section
variable {P:Program} {E:Em}
def OV (E:Em):Option Value->Option Value->Prop
 | none,none=>True
 | some x,some y=>VR E x y
 | _,_=>False
theorem Be {x a:Option Value} {d n l:Nat} (h:Gn x d n=some l) (b:OV E x a):(a=none/\x=none/\l=d)\/∃k,a=some (.int k (l:Int))/\l<=n:=by
 unfold Gn at h;split at h
 ·cases h
  cases a with
  | none=>exact .inl ⟨rfl,rfl,rfl⟩
  | some=>exact b.elim
 ·rename_i k i
  obtain⟨rfl,c⟩:=Il h;cases a with
  | none=>exact b.elim
  | some y=>exact .inr ⟨k,by rw[Eh b],c⟩
 · cases h
theorem Io {isS:Bool} {len cap:Nat} {lo hi mx:Option Value} {l h m:Nat}
  (i:(mx=none/\m=cap)\/(∃k,mx=some (.int k (m:Int))/\m<=cap))
  (e:(hi=none/\mx=none/\h=len)\/∃k,hi=some (.int k (h:Int))/\h<=m)
  (d:(lo=none/\l=0)\/∃k,lo=some (.int k (l:Int))/\l<=h) (w:World):
  (Instr.sliceBounds isS len cap lo hi mx).run P w=.ok (l,h,m) w:=by
 have one:∀(k:IntKind) (a b:Nat) (c:BoundsCode),a<=b->(Instr.sliceBound (.int k (a:Int)) b c).run P w=.ok a w:=by
  intro k a b c g;simp[Instr.sliceBound,asIntOf,g]
 unfold Instr.sliceBounds;rcases i with ⟨rfl,rfl⟩ | ⟨k,rfl,i⟩
 ·rcases e with ⟨rfl,_,rfl⟩ | ⟨k,rfl,e⟩
  · rcases d with ⟨rfl,rfl⟩ | ⟨k,rfl,d⟩ <;> simp[*]
  · rcases d with ⟨rfl,rfl⟩ | ⟨k,rfl,d⟩ <;> simp[*]
 ·rcases e with ⟨rfl,j,rfl⟩ | ⟨k,rfl,e⟩
  · cases j
  · rcases d with ⟨rfl,rfl⟩ | ⟨k,rfl,d⟩ <;> simp[*]
theorem Nd (s:ByteArray) (l h:Nat):s.extract l h=⟨((s.data.toList.drop l).take (h-l)).toArray⟩:=by
 apply ByteArray.ext;rw[ByteArray.data_extract];apply Array.toList_inj.1;rw[Array.toList_extract]
theorem Rw {t l h:Nat} {s:ByteArray} {lo hi:Option Value} (o:P.underlying t=some .string)
  (j:Gn hi s.size s.size=some h) (n:Gn lo 0 h=some l) {d c:Option Value} (g:OV E lo d) (e:OV E hi c) (w:World):
  (Instr.sliceAt t (.string s) d c none).run P w=.ok (.string ⟨((s.data.toList.drop l).take (h-l)).toArray⟩) w:=by
 have i:=Io (P:=P) (isS:=false) (len:=s.size) (cap:=s.size) (lo:=d) (hi:=c) (mx:=none) (l:=l) (h:=h) (m:=s.size) (.inl ⟨rfl,rfl⟩)
  (by rcases Be j e with ⟨a,_,b⟩ | ⟨k,a,b⟩
      · exact .inl ⟨a,rfl,b⟩
      · exact .inr ⟨k,a,b⟩)
  (by rcases Be n g with ⟨a,_,b⟩ | ⟨k,a,b⟩
      · exact .inl ⟨a,b⟩
      · exact .inr ⟨k,a,b⟩)
 simp[Instr.sliceAt,Instr.slice,run_underlying o,i,Nd]
theorem Rj {t j:Nat} {k:IntKind} {s:ByteArray} {b:UInt8} (d:P.underlying t=some .string) (c:j<s.size) (a:s.data.toList[j]? =some b) (w:World):
  (Instr.index t (.string s) (.int k (j:Int))).run P w=.ok (.int .u8 b.toNat) w:=by
 have hr:=Base.run_byte (P:=P) t d s k (j:Int) (by omega) (by exact_mod_cast c) w;rw[hr]
 congr 3
 simp[Base.byteAt,List.getD_eq_getElem?_getD,a]
theorem lr_set {c c':Array Value} (h:LR E c.toList c'.toList) {v e:Value} (g:VR E v e) (i:Nat):LR E (c.setIfInBounds i v).toList (c'.setIfInBounds i e).toList:=by
 refine LR.of_at (by simpa using h.length) fun j x y a b=>?_;simp only[Array.toList_setIfInBounds,List.getElem?_set]at a b;have l:c.toList.length=c'.toList.length:=h.length;by_cases hij:i=j
 ·subst hij
  rw[if_pos rfl]at a b;split at a
  ·split at b
   · cases a;cases b;exact g
   · cases b
  · cases a
 ·rw[if_neg hij]at a b
  obtain⟨m,d,hr⟩:=h.at j x a;rw[b]at d;cases d
  exact hr
theorem lr_foldl (off:Nat):∀(b a:List Value) (n:Nat) (c c':Array Value),LR E b a->LR E c.toList c'.toList->
  LR E ((b.zipIdx n).foldl (fun cs (x,j)=>cs.setIfInBounds (off+j) x) c).toList ((a.zipIdx n).foldl (fun cs (x,j)=>cs.setIfInBounds (off+j) x) c').toList
 | [],[],_,_,_,_,h=>h
 |v::b,v'::a,n,c,c',hv,h=>by
  simp only[List.zipIdx_cons,List.foldl_cons];exact lr_foldl off b a (n+1) _ _ hv.2 (lr_set h hv.1 (off+n))
 | [],_::_,_,_,_,h,_=>h.elim
 | _::_,[],_,_,_,h,_=>h.elim
def PL (E:Em):List (Nat×Value)->List (Nat×Value)->Prop
 | [],[]=>True
 | x::xs,y::ys=>x.1=y.1/\VR E x.2 y.2/\PL E xs ys
 | _,_=>False
theorem Py {d:Nat->Option (Nat×Nat)}:∀(m g:List (Nat×Value)) (c c' r:Array Value),PL E m g->LR E c.toList c'.toList->Instr.fill d c m=some r->
   ∃r',Instr.fill d c' g=some r'/\LR E r.toList r'.toList
 | [],[],c,c',r,_,hc,h=>by
   simp only[Instr.fill,Option.some.injEq]at h;subst h;exact⟨c',rfl,hc⟩
 | (i,v)::m,(j,v')::g,c,c',r,hp,hc,h=>by
   obtain⟨rfl,hv,hp⟩:=hp;have b:=hv.cells;have p:v.cells.size=v'.cells.size:=by simpa using b.length
   have o:c.size=c'.size:=by simpa using hc.length
   simp only[Instr.fill]at h ⊢;split at h
   · cases h
   ·rename_i off size q
    split at h
    · cases h
    ·rename_i l
     rw[<- p,<-o];rw[if_neg l];have:=lr_foldl (E:=E) off v.cells.toList v'.cells.toList 0 c c' b hc;have e:∀(a:Array Value) (c:Array Value),a.zipIdx.foldl (fun n (x,j)=>n.setIfInBounds (off+j) x) c=(a.toList.zipIdx 0).foldl (fun n (x,j)=>n.setIfInBounds (off+j) x) c:=by
      intro a c;rw[<- Array.foldl_toList,Array.toList_zipIdx]
     refine Py m g _ _ r hp ?_ h;rw[e,e];exact this
 | [],_::_,_,_,_,h,_,_=>h.elim
 | _::_,[],_,_,_,h,_,_=>h.elim
theorem pl_map {σ ρ:Operand->Value}:∀(l:List (Nat×Operand)),(∀p∈l,VR E (σ p.2) (ρ p.2))->PL E (l.map fun p=>(p.1,σ p.2)) (l.map fun p=>(p.1,ρ p.2))
 | [],_=>trivial
 | p::l,h=>⟨rfl,h p (by simp),pl_map l fun q hq=>h q (by simp[hq])⟩
theorem Li {σ ρ:Operand->Value}:∀(l:List Operand),(∀p∈l,VR E (σ p) (ρ p))->LR E (l.map σ) (l.map ρ)
 | [],_=>trivial
 | p::l,h=>⟨h p (by simp),Li l fun q hq=>h q (by simp[hq])⟩
theorem Tf {P:Program}:∀(a:List Field) (b:List (Nat×Nat)),a.mapM (fun f=>(Fa P f.type).map fun n=>(f.offset,n))=some b->∀w,
  (a.mapM (fun f=>do pure (f.offset,<-sizeOf f.type)):Sem _).run P w=.ok b w
 | [],b,h,w=>by simp at h;subst h;rfl
 |f::a,b,h,w=>by
  simp only[List.mapM_cons,Option.bind_eq_bind,Option.pure_def]at h;cases hs:Fa P f.type with
  | none=>simp[hs]at h
  |some n=>
   cases hr:a.mapM (fun f=>(Fa P f.type).map fun n=>(f.offset,n)) with
   | none=>simp[hs,hr]at h
   |some pl'=>
    simp[hs,hr]at h;subst h;have ih:=Tf a pl' hr w;rw[List.mapM_cons,Sem.run_bind,Sem.run_bind,Cg hs];simp only[Result.andThen_ok,Sem.run_pure];rw[Sem.run_bind,ih];rfl
theorem buildA_run {t:Nat} {c b:Array (Nat×Value)} {v:Value} (h:Vf P t c=some v) (u:PL E c.toList b.toList):
  ∃v',VR E v v'/\∀w,(Instr.build t b).run P w=.ok v' w:=by
 unfold Vf at h;split at h <;> first | (cases h;done) | skip
 rename_i i hi;split at h <;> first | (cases h;done) | skip
 rename_i z x;split at h <;> first | (cases h;done) | skip
 rename_i B;have l:LR E z.cells.toList z.cells.toList:=(Du (E:=E) z B).cells;split at h
 ·rename_i q p
  split at h <;> first | (cases h;done) | skip
  rename_i y o;split at h <;> first | (cases h;done) | skip
  rename_i A d;cases h
  obtain⟨G,g,m⟩:=Py _ _ _ _ _ u l d;refine⟨_,VR.agg' m,fun w=>?_⟩;have C:=Tf q.toList y o w;have j:(q.mapM (fun f=>do pure (f.offset,<-sizeOf f.type)):Sem _).run P w=.ok y.toArray w:=by
   have:=congrArg (fun r=>Result.andThen r fun a w=>Result.ok (List.toArray a) w) C;simp only[Result.andThen_ok]at this;rw[<- Sem.run_map]at this;rw[<- this,<-List.mapM_toArray]
  simp only[bind_pure_comp]at j;simp[Instr.build,zeroValue,typeInfo,hi,x,run_underlying p,j,g]
 ·rename_i n e p
  split at h <;> first | (cases h;done) | skip
  rename_i n D;split at h <;> first | (cases h;done) | skip
  rename_i A d;cases h
  obtain⟨G,g,m⟩:=Py _ _ _ _ _ u l d;refine⟨_,VR.agg' m,fun w=>?_⟩;simp[Instr.build,zeroValue,typeInfo,hi,x,run_underlying p,Cg D,g]
 · cases h
theorem foldl_at (off:Nat):∀(a:List Value) (n:Nat) (c:Array Value),off+n+a.length<=c.size->((a.zipIdx n).foldl (fun cs (x,j)=>cs.setIfInBounds (off+j) x) c).toList=c.toList.take (off+n)++(a++c.toList.drop (off+n+a.length))
 | [],n,c,h=>by
   simp only[List.zipIdx_nil,List.foldl_nil,List.nil_append,List.length_nil,Nat.add_zero];rw[List.take_append_drop]
 | v::a,n,c,h=>by
   simp only[List.length_cons]at h;simp only[List.zipIdx_cons,List.foldl_cons];rw[foldl_at off a (n+1) (c.setIfInBounds (off+n) v) (by simp;omega),Array.toList_setIfInBounds];have e1:(c.toList.set (off+n) v).take (off+(n+1))=c.toList.take (off+n)++ [v]:=by
    rw[show off+(n+1)=(off+n)+1 by omega,List.take_add_one,List.getElem?_set_self (by simp;omega),List.take_set_of_le ql];rfl
   have b:(c.toList.set (off+n) v).drop (off+(n+1)+a.length)=c.toList.drop (off+n+(v::a).length):=by
    rw[List.drop_set_of_lt (by omega)]
    congr 1
    simp only[List.length_cons];omega
   rw[e1,b];simp
theorem Zl {b:List (Nat×Nat)}:∀(d:List (Nat×Value)) (c:Array Value) (l:List Value),fillL b d c.toList=some l->Instr.fill (b[·]?) c d=some ⟨l⟩
 | [],c,l,h=>by
   cases h
   rfl
 | (i,v)::r,c,l,h=>by
   unfold fillL at h;rw[nth_eq]at h;split at h
   ·rename_i off size hp
    split at h
    ·rename_i hc
     rw[Bool.and_eq_true,Mp]at hc;have h1:=Nat.eq_of_beq_eq_true hc.1;have g:=Wk _ _ hc.2;simp only[Array.length_toList]at h1 g;have m:=foldl_at off v.cells.toList 0 c (by simp;omega);simp only[Instr.fill,hp];rw[if_neg (by simp[h1.symm];omega)];have e:v.cells.zipIdx.foldl (fun a (x,j)=>a.setIfInBounds (off+j) x) c=(v.cells.toList.zipIdx 0).foldl (fun a (x,j)=>a.setIfInBounds (off+j) x) c:=by
      rw[<- Array.foldl_toList,Array.toList_zipIdx]
     refine Zl r _ l ?_;rw[e,m,<-h,Pi];simp
    · cases h
   · cases h
theorem buildF_old {P:Program} {t:Nat} {c:List (Nat×Value)} {v:Value} (h:buildF P t c=some v):Vf P t c.toArray=some v:=by
 unfold buildF at h;split at h
 ·rename_i l e
  split at h <;> first | (cases h;done) | skip
  rename_i i hi;split at h <;> first | (cases h;done) | skip
  rename_i z g;split at h <;> first | (cases h;done) | skip
  rename_i d;split at h <;> first | (cases h;done) | skip
  rename_i m b;split at h <;> first | (cases h;done) | skip
  rename_i j a;unfold Vf;simp only[hi,g,d,e,b,Zl _ _ _ a];exact h
 · exact h
end
end Cx
namespace Cx
open Go
section
variable {P:Program} {E:Em}
theorem Mf:∀(x y:List UInt8),Gp x y=(x==y)
 | [],[]=>rfl
 | [],_::_=>rfl
 | _::_,[]=>rfl
 |a::x,b::y=>by
  unfold Gp;by_cases h:a.toNat=b.toNat
  ·have hab:a=b:=UInt8.toNat_inj.1 h
   subst hab;simp[Mf x y]
  ·rw[Iu h]
   have hab:a≠b:=fun e=>h (by rw[e]);simp[hab]
theorem Pq:∀(x y:List UInt8),bytesLess x y=Op.bytesLess x y
 | [],[]=>rfl
 | [],_::_=>rfl
 | _::_,[]=>rfl
 |a::x,b::y=>by
  unfold bytesLess Op.bytesLess;by_cases hlt:a.toNat<b.toNat
  ·have h1:Nat.blt a.toNat b.toNat=true:=by simpa [Nat.blt_eq] using hlt
   have d:a<b:=UInt8.lt_iff_toNat_lt.2 hlt;simp[h1,d]
  ·have h1:Nat.blt a.toNat b.toNat=false:=by
    cases hb:Nat.blt a.toNat b.toNat
    · rfl
    · exact absurd (by simpa [Nat.blt_eq] using hb) hlt
   have d:¬a<b:=fun h=>hlt (UInt8.lt_iff_toNat_lt.1 h);by_cases h:a.toNat=b.toNat
   ·have c:a=b:=UInt8.toNat_inj.1 h
    subst c;simp[h1,Pq x y]
   ·have c:a≠b:=fun e=>h (by rw[e])
    have g:Nat.beq a.toNat b.toNat=false:=Iu h;simp[h1,d,c,g]
theorem Ys (x y:ByteArray):(⟨(x.data.toList++y.data.toList).toArray⟩:ByteArray)=x++y:=by
 apply ByteArray.ext;rw[ByteArray.data_append];apply Array.toList_inj.1;simp
theorem stringA_run {op:BinOp} {x y:ByteArray} {v:Value} (h:Ut op x y=some v) (w:World):(Op.stringOp op x y).run P w=.ok v w:=by
 unfold Op.stringOp;simp only[ByteArray.toList_eq];cases op <;> simp only[Ut,Cp,Mf,Pq,Option.some.injEq,reduceCtorEq]at h
 case add=>
  split at h
  ·rename_i a
   cases h
   have b:x.size+y.size<=lim:=by simpa using a
   have:¬(((x.size+y.size:Nat):Int)>IntKind.i64.max):=by
    have e:IntKind.i64.max=9223372036854775807:=by decide
    rw[e];unfold lim at b;omega
   simp only[this,if_false,Ys];rfl
  · cases h
 all_goals (subst h;rfl)
theorem Jj {op:BinOp} {t:Nat} {x y:Operand} {a b:Value} (e:∀c d,a=.agg c->b=.agg d->False) (g:a=.nilIface->b=.nilIface->False) (w:World):
  (eqGuard op t x y a b).run P w=.ok () w:=by
 unfold eqGuard;cases op <;> simp only[Bool.not_true,Bool.not_false,Bool.false_eq_true,if_false,if_true] <;> first
  | rfl
  | (split
     · exact (g rfl rfl).elim
     · exact (e _ _ rfl rfl).elim
     · rfl)
theorem eqNil_run {t:Nat} {d:TypeDesc} {x y a c:Value} {b:Bool} (e:P.underlying t=some d) (h:Ss d x y=some b) (g:VR E x a) (i:VR E y c) (n:Nat) (w:World):
  (Op.equalIn (n+1) t a c).run P w=.ok b w:=by
 unfold Ss at h;split at h <;> cases h <;> cases g <;> cases i <;> simp[Op.equalIn,run_underlying e]
theorem equal_eq (t:Nat) (x y:Value):Op.equal t x y=Op.equalIn (9999+1) t x y:=rfl
theorem eqNil_kinds {d:TypeDesc} {x y:Value} {b:Bool} (h:Ss d x y=some b):
  (∀c c',x=.agg c->y=.agg c'->False)/\(x=.nilIface->y=.nilIface->False):=by
 unfold Ss at h;split at h <;> cases h <;> refine⟨fun _ _ a e=>?_,fun a e=>?_⟩ <;> first | (cases a;done) | (cases e;done)
theorem Zb {t:Nat} {d:TypeDesc} {x y a c:Value} {b:Bool} (h:Ss d x y=some b) (e:VR E x a) (g:VR E y c):
  binOp .eql t a c=(do pure (.bool (<- Op.equal t a c)))/\binOp .neq t a c=(do pure (.bool (!(<- Op.equal t a c)))):=by
 unfold Ss at h;split at h <;> cases h <;> cases e <;> cases g <;> exact⟨rfl,rfl⟩
theorem execOp_bare {o:Oper} {σ ρ:Operand->Value} (c:∀cs b,o.op≠ .select cs b) (h:∀x∈o.op.operands,VR E (σ x) (ρ x)) (a:∀x∈o.op.operands,bare (σ x)=true):
 execOp ρ o=execOp σ o:=execOp_congr o c fun x hx=>Pp (a x hx) (h x hx)
theorem wrapK {k:IntKind} {n:Nat} (h:n<=topK k):k.wrap (n:Int)=(n:Int):=by
 cases k <;> simp only[topK]at h <;> simp[IntKind.wrap,IntKind.bits,IntKind.signed] <;> omega
theorem Nm {k:IntKind} {n:Nat} {v:Value} (h:intK k n=some v):v=.int k (n:Int)/\k.wrap (n:Int)=(n:Int):=by
 unfold intK at h;split at h
 ·rename_i a
  cases h
  exact⟨rfl,wrapK (Nat.le_of_ble_eq_true a)⟩
 · cases h
theorem kind_eq {j k:IntKind} (h:Nat.beq j.ctorIdx k.ctorIdx=true):j=k:=by
 cases j <;> cases k <;> first | rfl | (cases h)
theorem natPair_spec {x y:Value} {k:IntKind} {a b:Nat} (h:natPair x y=some (k,a,b)):x=.int k (a:Int)/\y=.int k (b:Int):=by
 unfold natPair at h;split at h <;> first | (cases h;done) | skip
 split at h <;> first | (cases h;done) | skip
 split at h <;> first | (cases h;done) | skip
 split at h <;> first | (cases h;done) | skip
 split at h <;> first | (cases h;done) | skip
 rename_i c;cases h
 have c:=kind_eq c;subst c;exact⟨rfl,rfl⟩
theorem strPair_spec {x y:Value} {a b:ByteArray} (h:strPair x y=some (a,b)):x=.string a/\y=.string b:=by
 unfold strPair at h;split at h <;> first | (cases h;done) | skip
 split at h <;> first | (cases h;done) | skip
 cases h
 exact⟨rfl,rfl⟩
theorem natBin_run {op:BinOp} {k:IntKind} {a b t:Nat} {v:Value} (h:natBin op k a b=some v):bare v=true/\∀w,(binOp op t (.int k (a:Int)) (.int k (b:Int))).run P w=.ok v w:=by
 have e:∀ {x y:Nat},Nat.blt x y=decide ((x:Int)< (y:Int)):=by
  intro x y;cases hx:Nat.blt x y
  ·symm
   rw[decide_eq_false_iff_not];intro h;have:Nat.blt x y=true:=by rw[Nat.blt_eq];omega
   rw[hx]at this;cases this
  ·symm
   rw[decide_eq_true_eq];rw[Nat.blt_eq]at hx;omega
 have i:∀ {x y:Nat},Nat.ble x y=decide ((x:Int)<=(y:Int)):=by
  intro x y;cases hx:Nat.ble x y
  ·symm
   rw[decide_eq_false_iff_not];intro h;have:Nat.ble x y=true:=Nat.ble_eq_true_of_le (by omega);rw[hx]at this;cases this
  ·symm
   rw[decide_eq_true_eq];have:=Nat.le_of_ble_eq_true hx;omega
 have g:∀ {x y:Nat},Nat.beq x y=((x:Int)==(y:Int)):=by
  intro x y;by_cases hx:x=y
  · subst hx;rw[Iv rfl];simp
  ·rw[Iu hx]
   symm
   rw[beq_eq_false_iff_ne];omega
 unfold natBin at h;split at h
 ·obtain⟨rfl,d⟩:=Nm h
  refine⟨rfl,fun w=>?_⟩;have:(a:Int)+(b:Int)=((a+b:Nat):Int):=by omega
  simp only[binOp,Op.intArith,this,d,ne_eq,not_true_eq_false,if_false];rfl
 ·split at h
  ·rename_i c
   have c:=Nat.le_of_ble_eq_true c;obtain⟨rfl,d⟩:=Nm h;refine⟨rfl,fun w=>?_⟩;have:(a:Int)-(b:Int)=((a-b:Nat):Int):=by omega
   simp only[binOp,Op.intArith,this,d,ne_eq,not_true_eq_false,if_false];rfl
  · cases h
 ·obtain⟨rfl,d⟩:=Nm h
  refine⟨rfl,fun w=>?_⟩;have:(a:Int)*(b:Int)=((a*b:Nat):Int):=by rw[Int.natCast_mul]
  simp only[binOp,Op.intArith,this,d,ne_eq,not_true_eq_false,if_false];rfl
 · cases h;refine⟨rfl,fun w=>?_⟩;simp only[binOp,Op.intCmp,ne_eq,not_true_eq_false,if_false,e];rfl
 · cases h;refine⟨rfl,fun w=>?_⟩;simp only[binOp,Op.intCmp,ne_eq,not_true_eq_false,if_false,i];rfl
 · cases h;refine⟨rfl,fun w=>?_⟩;simp only[binOp,Op.intCmp,ne_eq,not_true_eq_false,if_false,e];rfl
 · cases h;refine⟨rfl,fun w=>?_⟩;simp only[binOp,Op.intCmp,ne_eq,not_true_eq_false,if_false,i];rfl
 · cases h;refine⟨rfl,fun w=>?_⟩;simp only[binOp,Op.intCmp,ne_eq,not_true_eq_false,if_false,g];rfl
 · cases h;refine⟨rfl,fun w=>?_⟩;simp only[binOp,Op.intCmp,ne_eq,not_true_eq_false,if_false,g,bne];rfl
 · cases h
theorem slow_run {o:Oper} {f:AF} {ρ:Operand->Value} {v:Value} (e:∀cs b,o.op≠ .select cs b) (hr:∀z∈o.op.operands,VR E (ev f z) (ρ z)) (c:∀z∈o.op.operands,bare (ev f z)=true)
  (h:(match Ds P (execOp (ev f) o) with
    |some (.value r)=>match bare r with
     | true=>some r
     | false=>none
    | _=>none)=some v):∃v',VR E v v'/\∀w,(execOp ρ o).run P w=.ok (.value v') w:=by
 split at h
 ·rename_i r d
  split at h
  · rename_i a
    cases h
    exact⟨v,Du v a,fun w=>by rw[execOp_bare e hr c];exact Db _ _ d w⟩
  · cases h
 · cases h
theorem Fw {o:Oper} {f:AF} {ρ:Operand->Value} {v:Value} (c:∀cs b,o.op≠ .select cs b) (hr:∀z∈o.op.operands,VR E (ev f z) (ρ z)) (h:Rx P f o=some v):
  ∃v',VR E v v'/\∀w,(execOp ρ o).run P w=.ok (.value v') w:=by
 unfold Rx at h;split at h
 ·rename_i a
  exact slow_run c hr (fun x d=>Array.all_eq_true_iff_forall_mem.1 a x d) h
 · cases h
theorem convNat_run {c b:Nat} {x e v:Value} (h:convNat P c b x=some v) (l:VR E x e):bare v=true/\∀w,(convert c b e).run P w=.ok v w:=by
 unfold convNat at h;split at h <;> first | (cases h;done) | skip
 split at h <;> first | (cases h;done) | skip
 split at h <;> first | (cases h;done) | skip
 rename_i m _ a _ _ d k i g;obtain⟨rfl,j⟩:=Nm h;obtain rfl:=Eh l;refine⟨rfl,fun w=>?_⟩;simp only[convert,Sem.run_bind,run_underlying i,run_underlying g,Result.andThen_ok];show (Conv.intToInt k (Int.ofNat a)).run P w=_;simp only[Conv.intToInt];rw[show (Int.ofNat a)=(a:Int) from rfl,j];rfl
theorem zeroT_zero {t:Nat} {z:Value} (h:Lz P t=some z):(∀w,(zeroValue t).run P w=.ok z w)/\bare z=true:=by
 unfold Lz at h;split at h
 ·rename_i i hi
  split at h
  ·rename_i c b
   split at h
   ·rename_i a
    split at h
    ·cases h
     exact⟨fun w=>by simp[zeroValue,typeInfo,hi,b],a⟩
    · cases h
   · cases h
  · cases h
 · cases h
theorem held_rel {x a:Value} (b:VR E x a) (ok:Bool):VR E (match ok with | true=>.tuple #[x,.bool true] | false=>x) (if ok then .tuple #[a,.bool true] else a):=by
 cases ok
 · exact b
 · exact VR.tuple' (c:=#[x,.bool true]) (c':=#[a,.bool true]) ⟨b,.bool true,trivial⟩
theorem assertA_run {x n v:Value} {xt a:Nat} {ok:Bool} (h:assertA P x a ok=some v) (q:VR E x n):∃v',VR E v v'/\∀w,(Instr.typeAssert n xt a ok).run P w=.ok v' w:=by
 unfold assertA at h;split at h
 ·rename_i t B
  obtain⟨g,rfl,y⟩:∃g,n=.iface t g/\VR E B g:=by cases q with | iface t v v' h=>exact⟨_,rfl,h⟩
  split at h
  ·rename_i r j
   split at h
   ·rename_i i hi
    split at h
    ·rename_i u
     cases h
     refine⟨_,held_rel q ok,fun w=>?_⟩;simp[Instr.typeAssert,run_underlying j,typeInfo,hi,u]
    · cases h
   · cases h
  ·rename_i d p j
   have o:∀w,(underlying a).run P w=.ok d w:=run_underlying j;split at h
   ·rename_i b
    have b:=Nat.eq_of_beq_eq_true b;subst b;cases h
    refine⟨_,held_rel y ok,fun w=>?_⟩;cases d <;> first | exact (p _ rfl).elim | simp[Instr.typeAssert,o]
   ·rename_i b
    have b:t≠a:=fun e=>by rw[Iv e]at b;cases b
    split at h
    ·split at h
     ·rename_i z A
      cases h
      obtain⟨m,l⟩:=zeroT_zero A;refine⟨.tuple #[z,.bool false],VR.tuple' (c:=#[z,.bool false]) (c':=#[z,.bool false]) ⟨Du z l,.bool false,trivial⟩,fun w=>?_⟩;cases d <;> first | exact (p _ rfl).elim | simp[Instr.typeAssert,o,b,m]
     · cases h
    · cases h
  · cases h
 · cases h
theorem methodF_run {t f:Nat} {a:String} (h:methodF P t a=some f) (v:Value) (n:Nat) (w:World):(method (n+1) t v a).run P w=.ok (f,v) w:=by
 unfold methodF at h;split at h
 ·rename_i i hi
  split at h
  ·rename_i m p
   have b:i.methods.find? (fun x=>x.name==a)=some m:=by rw[<- Array.find?_toList];exact p
   split at h
   ·rename_i g e j c l
    cases h
    simp[method,typeInfo,hi,b,j,c,follow,receiverAt,run_underlying l,Place.get]
   · cases h
   ·rename_i g d q j c l
    cases h
    have o:∀w,(underlying t).run P w=.ok d w:=run_underlying l;cases d <;> first | exact (q _ rfl).elim | simp[method,typeInfo,hi,b,j,c,follow,receiverAt,o,Place.get]
   · cases h
  · cases h
 · cases h
theorem samePtr_spec {d:TypeDesc} {u v:Value} (h:samePtr P d u v=true):
  ∃te b o j,d=.pointer te/\u=.pointer (some ⟨b,o,none⟩)/\v=.pointer (some ⟨b,o,none⟩)/\P.info? te=some j:=by
 unfold samePtr at h;split at h
 ·rename_i te a o b p
  split at h
  ·rename_i j c
   rw[Bool.and_eq_true]at h;obtain rfl:a=b:=Nat.eq_of_beq_eq_true h.1;obtain rfl:o=p:=Nat.eq_of_beq_eq_true h.2;exact⟨te,a,o,j,rfl,rfl,rfl,c⟩
  · cases h
 · cases h
theorem Sg {o:Oper} {op:BinOp} {t Q:Nat} {f:AF} {x y:Operand} {ρ:Operand->Value} {v:Value} (n:o.op=.binOp op t x y Q) (h:Ul P o op t f (ev f x) (ev f y)=some v)
  (hr:∀z∈o.op.operands,VR E (ev f z) (ρ z)):∃v',VR E v v'/\∀w,(execOp ρ o).run P w=.ok (.value v') w:=by
 have i:VR E (ev f x) (ρ x):=hr x (by simp[n,Op.operands]);have l:VR E (ev f y) (ρ y):=hr y (by simp[n,Op.operands]);unfold Ul at h;split at h
 ·rename_i g
  simp only[Bool.and_eq_true]at g;refine slow_run (by simp[n]) hr ?_ h;intro z G;simp only[n,Op.operands,List.mem_toArray,List.mem_cons,List.not_mem_nil,or_false]at G;rcases G with rfl | rfl
  · exact g.1
  · exact g.2
 ·split at h
  ·rename_i d D
   split at h
   ·rename_i N
    obtain⟨T,b,O,j,rfl,J,K,M⟩:=samePtr_spec N;rw[J]at i;rw[K]at l;obtain⟨e,L,q⟩:=Fq i;obtain⟨S,p,I⟩:=Fq l;rw[L]at p;cases p
    split at h
    ·cases h
     refine⟨_,.bool false,fun w=>?_⟩;have C:=Jj (P:=P) (op:=.neq) (t:=t) (x:=x) (y:=y) (a:=ρ x) (b:=ρ y) (fun c d m _=>by rw[q]at m;cases m) (fun m _=>by rw[q]at m;cases m) w;rw[q,I]at C;have g:=Lib.run_neq_ptr_same (P:=P) w ⟨e.blk,O,none⟩ D M;simp[execOp,n,q,I,C,g]
    · cases h
   have run:∀b,Ss d (ev f x) (ev f y)=some b->(∀w,(Op.equal t (ρ x) (ρ y)).run P w=.ok b w)/\∀op w,(eqGuard op t x y (ρ x) (ρ y)).run P w=.ok () w:=by
    intro b g;refine⟨fun w=>by rw[equal_eq];exact eqNil_run D g i l 9999 w,fun op w=>?_⟩;obtain⟨k1,k2⟩:=eqNil_kinds g;refine Jj (fun c R m r=>?_) (fun m r=>?_) w
    ·rw[m]at i;rw[r]at l
     generalize ev f x=u at i k1;generalize ev f y=u' at l k1;cases i;cases l
     exact k1 _ _ rfl rfl
    ·rw[m]at i;rw[r]at l
     generalize ev f x=u at i k2;generalize ev f y=u' at l k2;cases i;cases l
     exact k2 rfl rfl
   split at h
   ·rename_i b g
    cases h
    obtain⟨A,B⟩:=run b g;refine⟨_,.bool b,fun w=>?_⟩;simp[execOp,n,B,(Zb g i l).1,A]
   ·rename_i b g
    cases h
    obtain⟨A,B⟩:=run b g;refine⟨_,.bool (!b),fun w=>?_⟩;simp[execOp,n,B,(Zb g i l).2,A]
   · cases h
  · cases h
theorem binA_run {o:Oper} {op:BinOp} {t r:Nat} {f:AF} {x y:Operand} {ρ:Operand->Value} {v:Value} (c:o.op=.binOp op t x y r) (h:binA P o op t f x y=some v)
  (hr:∀z∈o.op.operands,VR E (ev f z) (ρ z)):∃v',VR E v v'/\∀w,(execOp ρ o).run P w=.ok (.value v') w:=by
 have j:VR E (ev f x) (ρ x):=hr x (by simp[c,Op.operands]);have l:VR E (ev f y) (ρ y):=hr y (by simp[c,Op.operands]);unfold binA at h;split at h
 ·rename_i k a b n
  split at h
  ·rename_i u i
   cases h
   obtain⟨d,e⟩:=natPair_spec n;rw[d]at j;rw[e]at l;have d:=Eh j;have e:=Eh l;obtain⟨m,g⟩:=natBin_run (P:=P) (t:=t) i;refine⟨v,Du v m,fun w=>?_⟩;simp only[execOp,c,d,e,Sem.run_bind,Jj (P:=P) (op:=op) (t:=t) (x:=x) (y:=y) (a:=.int k (a:Int)) (b:=.int k (b:Int)) (by simp) (by simp) w,Result.andThen_ok,g,Sem.run_pure]
  · exact Sg c h hr
 ·split at h
  ·rename_i a b n
   obtain⟨q,i⟩:=strPair_spec n;rw[q]at j;rw[i]at l;have d:=Eo j;have e:=Eo l;have p:=fun w=>stringA_run (P:=P) h w;have i:VR E v v:=by
    unfold Ut at h;split at h
    ·split at h
     · cases h;exact .string _
     · cases h
    all_goals first | (cases h;exact .bool _) | cases h
   refine⟨v,i,fun w=>?_⟩;have m:∀op,binOp op t (.string a) (.string b)=Op.stringOp op a b:=fun op=>by cases op <;> rfl
   simp only[execOp,c,d,e,Sem.run_bind,Jj (P:=P) (op:=op) (t:=t) (x:=x) (y:=y) (a:=.string a) (b:=.string b) (by simp) (by simp) w,Result.andThen_ok,m,p,Sem.run_pure]
  · exact Sg c h hr
theorem Lg {o:Oper} {f:AF} {ρ:Operand->Value} {v:Value} (h:heapless P f o=some v) (hr:∀z∈o.op.operands,VR E (ev f z) (ρ z)):
  ∃v',VR E v v'/\∀w,(execOp ρ o).run P w=.ok (.value v') w:=by
 obtain⟨X,op,W,pos,after,Y⟩:=o;unfold heapless at h;simp only at h;split at h
 · rename_i x;cases h;exact⟨_,hr x (by simp[Op.operands]),fun w=>rfl⟩
 · rename_i x;cases h;exact⟨_,hr x (by simp[Op.operands]),fun w=>rfl⟩
 ·rename_i c a b
  have L:=hr c (by simp[Op.operands]);have K:=hr a (by simp[Op.operands]);have Q:=hr b (by simp[Op.operands]);split at h <;> cases h
  · rename_i e;rw[e]at L;exact⟨_,K,fun w=>by simp[execOp,Im L,asBool]⟩
  · rename_i e;rw[e]at L;exact⟨_,Q,fun w=>by simp[execOp,Im L,asBool]⟩
 ·rename_i x
  have A:=hr x (by simp[Op.operands]);split at h <;> cases h
  ·rename_i a e
   rw[e]at A;generalize hq:ρ x=q at A;cases A with
   | ptr b o M R=>exact⟨_,.ptr b o M R,fun w=>by simp[execOp,hq]⟩
  ·rename_i g a c e
   rw[e]at A;obtain⟨a',c',M,u,B⟩:=A.func_inv;exact⟨_,VR.func' u B,fun w=>by simp[execOp,M]⟩
  ·rename_i r e
   rw[e]at A;generalize hq:ρ x=q at A;cases A with
   | map0=>exact⟨_,.map0,fun w=>by simp[execOp,hq]⟩
   | map r M R=>exact⟨_,.map r M R,fun w=>by simp[execOp,hq]⟩
 ·rename_i x i
  have A:=hr x (by simp[Op.operands]);split at h
  ·rename_i vs e
   rw[e]at A;obtain⟨a6,M,u⟩:=A.tuple_inv;obtain⟨v',B,h3⟩:=lr_get u h;exact⟨v',h3,fun w=>by simp[execOp,M,Instr.extract,B]⟩
  · cases h
 ·rename_i t x i
  obtain⟨v',u,B⟩:=fieldA_run h (hr x (by simp[Op.operands]));exact⟨v',u,fun w=>by simp[execOp,B]⟩
 ·rename_i t C
  have G:PL E (C.toList.map fun p=>(p.1,ev f p.2)).toArray.toList (C.map fun (i,x)=>(i,ρ x)).toList:=by
   simp only[Array.toList_map];exact pl_map C.toList fun p G=>hr p.2 (by simp only[Op.operands,List.mem_toArray,List.mem_map];exact⟨p,G,rfl⟩)
  obtain⟨v',u,B⟩:=buildA_run (buildF_old h) G;exact⟨v',u,fun w=>by simp only[execOp,Sem.run_bind,B];rfl⟩
 ·rename_i t x
  have A:=hr x (by simp[Op.operands]);split at h
  · cases h
  · cases h
  ·rename_i d hn I
   cases h
   refine⟨_,.iface t _ _ A,fun w=>?_⟩;simp only[execOp,Instr.makeInterface,Sem.run_bind,run_underlying I,Result.andThen_ok];cases d <;> first | rfl | exact absurd I (hn _)
 ·rename_i fn first D
  cases h
  refine⟨_,VR.func' (f':=first.map ρ) (c':=D.map ρ) ?_ ?_,fun w=>rfl⟩
  ·simp only[Array.toList_map]
   exact Li _ fun p G=>hr p (by simp[Op.operands,Array.mem_toList_iff.1 G])
  ·simp only[Array.toList_map]
   exact Li _ fun p G=>hr p (by simp[Op.operands,Array.mem_toList_iff.1 G])
 ·rename_i t x i
  obtain⟨v',u,B⟩:=Wa h (hr x (by simp[Op.operands]));exact⟨v',u,fun w=>by simp[execOp,B]⟩
 ·rename_i t x i
  obtain⟨v',u,B⟩:=Wh h (hr x (by simp[Op.operands])) (hr i (by simp[Op.operands]));exact⟨v',u,fun w=>by simp[execOp,B]⟩
 ·rename_i a3 t x y yt
  exact binA_run rfl h hr
 ·rename_i t x lo hi mx
  have A:=hr x (by simp[Op.operands]);split at h
  ·rename_i s e I
   rw[e]at A;have a1:OV E (lo.map (ev f)) (lo.map ρ):=by
     cases lo with
     | none=>trivial
     | some z=>exact hr z (by simp[Op.operands])
   have a0:OV E (hi.map (ev f)) (hi.map ρ):=by
     cases hi with
     | none=>trivial
     | some z=>exact hr z (by simp[Op.operands])
   split at h
   · rename_i hh u
     split at h
     · rename_i l B
       cases h
       exact⟨_,.string _,fun w=>by
        rw[Xj,Pv];simp only[execOp,Eo A,Option.map_none,Sem.run_bind,Rw I u B a1 a0 w];rfl⟩
     · cases h
   · cases h
  · cases h
 ·rename_i t x i
  have A:=hr x (by simp[Op.operands]);have hi:=hr i (by simp[Op.operands]);split at h
  ·rename_i s k j e1 e2 I
   rw[e1]at A;rw[e2]at hi;split at h
   · rename_i j' hj
     obtain⟨rfl,a2⟩:=Ic hj;split at h
     · rename_i b Q
       rw[nth_eq]at Q;cases h
       exact⟨_,.int _ _,fun w=>by simp only[execOp,Eo A,Eh hi,Sem.run_bind,Rj I a2 Q w];rfl⟩
     · cases h
   · cases h
  ·obtain⟨v',u,B⟩:=indexA_run h A hi
   exact⟨v',u,fun w=>by simp[execOp,B]⟩
 ·rename_i args S
  have m:LR E (args.toList.map (ev f)) (args.toList.map ρ):=Li _ fun p G=>hr p (by simp[Op.operands,Call.operands,Array.mem_toList_iff.1 G]);split at h
  ·rename_i a n c t N T
   rw[N]at m;split at h
   · rename_i el I
     cases h
     refine⟨_,.int _ _,fun w=>?_⟩;generalize hq:args.toList.map ρ=q at m
     match q,m with
     | [y],⟨hy,_⟩=>
       have K:args.map ρ=#[y]:=by apply Array.toList_inj.1;rw[Array.toList_map,hq]
       have V:S=#[t]:=by apply Array.toList_inj.1;rw[T]
       have hf:∃b c,y=.slice b n c:=by cases hy with
        | slice0=>exact⟨_,_,rfl⟩
        | slice=>exact⟨_,_,rfl⟩
        | slice00=>exact⟨_,_,rfl⟩
       obtain⟨b',c',rfl⟩:=hf;simp[execOp,resolve,K,V,invoke,builtin,Builtin.len_,run_underlying I,goInt]
   · cases h
  ·rename_i s t N T
   rw[N]at m;split at h
   · rename_i I
     cases h
     refine⟨_,.int _ _,fun w=>?_⟩;generalize hq:args.toList.map ρ=q at m
     match q,m with
     | [y],⟨hy,_⟩=>
       have K:args.map ρ=#[y]:=by apply Array.toList_inj.1;rw[Array.toList_map,hq]
       have V:S=#[t]:=by apply Array.toList_inj.1;rw[T]
       obtain rfl:=Eo hy;simp[execOp,resolve,K,V,invoke,builtin,Builtin.len_,run_underlying I,goInt]
   · cases h
  · cases h
 ·rename_i args S
  have m:LR E (args.toList.map (ev f)) (args.toList.map ρ):=Li _ fun p G=>hr p (by simp[Op.operands,Call.operands,Array.mem_toList_iff.1 G]);split at h
  ·rename_i a n c t N T
   rw[N]at m;split at h
   · rename_i el I L
     cases h
     refine⟨_,.int _ _,fun w=>?_⟩;generalize hq:args.toList.map ρ=q at m
     match q,m with
     | [y],⟨hy,_⟩=>
       have K:args.map ρ=#[y]:=by apply Array.toList_inj.1;rw[Array.toList_map,hq]
       have V:S=#[t]:=by apply Array.toList_inj.1;rw[T]
       have U:c≠unk:=fun e=>by rw[Iv e]at L;cases L
       have hf:∃b,y=.slice b n c:=by cases hy with
        | slice0=>exact⟨_,rfl⟩
        |slice b o l c c' e R u B h3 h4=>
         rcases u with rfl | u
         · exact⟨_,rfl⟩
         · exact absurd u.1 U
        | slice00=>exact absurd rfl U
       obtain⟨b',rfl⟩:=hf;simp[execOp,resolve,K,V,invoke,builtin,Builtin.cap_,run_underlying I,goInt]
   · cases h
  · cases h
 ·rename_i a5 X x
  split at h
  ·rename_i v1 hv
   cases h
   obtain⟨Q,J⟩:=convNat_run (P:=P) hv (hr x (by simp[Op.operands]));exact⟨v,Du v Q,fun w=>by simp only[execOp,Sem.run_bind,J];rfl⟩
  · exact Fw (by simp) hr h
 ·rename_i x xt O ok
  split at h
  ·rename_i v1 hv
   cases h
   obtain⟨v',u,B⟩:=assertA_run (P:=P) (xt:=xt) hv (hr x (by simp[Op.operands]));exact⟨v',u,fun w=>by simp only[execOp,Sem.run_bind,B];rfl⟩
  · exact Fw (by simp) hr h
 ·rename_i args S
  have m:LR E (args.toList.map (ev f)) (args.toList.map ρ):=Li _ fun p G=>hr p (by simp[Op.operands,Call.operands,Array.mem_toList_iff.1 G]);split at h
  ·rename_i b o1 n c N
   rw[N]at m;cases h
   generalize hq:args.toList.map ρ=q at m
   match q,m with
   | [y],⟨hy,_⟩=>
     have K:args.map ρ=#[y]:=by apply Array.toList_inj.1;rw[Array.toList_map,hq]
     obtain⟨e,c',R,rfl,_,a4,_⟩:=Hj hy;refine⟨_,VR.ptr b o1 e R,fun w=>?_⟩;have L:c'≠0:=by omega
     have J:=Lib.run_unsafeSliceData_row (P:=P) w S W ⟨e.blk,o1,none⟩ (n+1) c' L;simp only[Nat.succ_eq_add_one]at*;simp[execOp,resolve,K,invoke,builtin,J]
  · exact Fw (by simp) hr h
 · exact Fw (by simp) hr h
 · exact Fw (by simp) hr h
 · exact Fw (by simp) hr h
 · exact Fw (by simp) hr h
 · cases h
end
end Cx
end Go.Proofs.YtjefcpjciogcjaaGreatDoor
