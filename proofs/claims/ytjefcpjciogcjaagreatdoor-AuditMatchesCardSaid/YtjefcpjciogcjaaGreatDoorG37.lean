/- Lemmas for the walk of the law, in 5 parts. No condition beyond what each states. -/
import Derived.Test.YtjefcpjciogcjaaGreatDoorG36
import Derived.Recover
namespace Go.Proofs.YtjefcpjciogcjaaGreatDoor
set_option maxRecDepth 100000
set_option linter.unusedVariables false
namespace Cx
open Go
inductive Moves (s s':HS):Prop where
 | stay:s'=s->Moves s s'
 | new (o:AObj):s.new o=some s'->Moves s s'
 | put (b:Nat) (o:AObj):s.put b o=some s'->Moves s s'
 | take (b:Nat) (o:AObj):s.take b o=some s'->Moves s s'
 | drop (b:Nat):s.drop b=some s'->Moves s s'
structure Keeps (s s':HS) (l:List Nat):Prop where
 le:s.next<=s'.next
 log:s'.log=l++s.log
 keep:∀b,(b<s.next\/s'.next<=b)->b∉l->s'.at b=s.at b
theorem Keeps.refl (s:HS):Keeps s s []:=⟨ql,rfl,fun _ _ _=>rfl⟩
theorem Keeps.trans {s t u:HS} {l m:List Nat} (A:Keeps s t l) (B:Keeps t u m):Keeps s u (m++l):=by
 have a:=A.le;have b:=B.le;refine⟨by omega,by rw[B.log,A.log,List.append_assoc],fun c e d=>?_⟩;simp only[List.mem_append,not_or]at d;rw[B.keep c (by omega) d.1,A.keep c (by omega) d.2]
theorem Moves.keeps {s i:HS} (h:Moves s i):∃l,Keeps s i l:=by
 cases h with
 | stay h=>subst h;exact⟨[],Keeps.refl _⟩
 |new o h=>
  obtain⟨a,g,d⟩:=HS.new_spec h;refine⟨[],by omega,by simpa using d,fun b j _=>?_⟩;rw[a];unfold upd;rw[if_neg (by omega)]
 |put b o h=>
  obtain⟨a,g,d⟩:=HS.put_spec h;refine⟨[b],by omega,by simpa using d,fun c _ e=>?_⟩;rw[a];unfold upd;rw[if_neg (by simpa using e)]
 |take b o h=>
  obtain⟨a,g,d⟩:=HS.take_spec h;refine⟨[b],by omega,by simpa using d,fun c m e=>?_⟩;rw[a];unfold upd;rw[if_neg (by omega),if_neg (by simpa using e)]
 |drop b h=>
  obtain⟨a,g,d⟩:=HS.drop_spec h;refine⟨[b],by omega,by simpa using d,fun c _ e=>?_⟩;rw[a];unfold upd;rw[if_neg (by simpa using e)]
theorem Jd {s a:HS} {b o:Nat} {c:List Value} (h:Hv s b o c=some a):Moves s a:=by
 unfold Hv at h;simp only[Ph]at h;split at h <;> first | (cases h;done) | skip
 split at h <;> first | (cases h;done) | skip
 split at h <;> first | (cases h;done) | skip
 exact .put _ _ h
theorem Fk {s a:HS} {e z len cap:Nat} {cs:List Value} {r:Value} (h:Cc s e z cs len cap=some (r,a)):Moves s a:=by
 unfold Cc at h;split at h <;> first | (cases h;done) | skip
 rename_i b;cases h
 exact .new _ b
theorem Oj {s a:HS} {t:Nat} {v r:Value} (h:Jp s t v=some (r,a)):Moves s a:=by
 unfold Jp at h;split at h <;> first | (cases h;done) | skip
 rename_i b;cases h
 exact .new _ b
section
variable {P:Program}
theorem storeA_moves {s a:HS} {t:Nat} {x v:Value} (h:Xi P s t x v=some a):Moves s a:=by
 unfold Xi at h;split at h <;> first | (cases h;done) | skip
 split at h <;> first | (cases h;done) | skip
 exact Jd h
theorem Jh {s b:HS} {t len:Nat} {a:Array (Nat×Value)} {r:Value} (h:Co P s t len a=some (r,b)):Moves s b:=by
 unfold Co at h;repeat' (split at h <;> first | (cases h;done) | (exact Fk h) | skip)
theorem Rm {s a:HS} {t:Nat} {l c:Value} {r:Value} (h:Hh P s t l c=some (r,a)):Moves s a:=by
 unfold Hh at h;repeat' (split at h <;> first | (cases h;done) | (exact Fk h) | skip)
theorem Uz {s b:HS} {e z n:Nat} {new:List Value} {x r:Value} (h:Po s e z n new x=some (r,b)):Moves s b:=by
 unfold Po at h;simp only[apK_eq]at h;repeat' (split at h <;> first | (cases h;done) | (exact Fk h) | skip)
 all_goals first | (cases h;exact .stay rfl) | skip
 all_goals first | (rename_i a;cases h;exact .take _ _ a) | (rename_i a;cases h;exact Jd a)
theorem Yf {s a:HS} {t u:Nat} {x y r:Value} (h:Pn P s t u x y=some (r,a)):Moves s a:=by
 unfold Pn at h;repeat' (split at h <;> first | (cases h;done) | (exact Uz h) | skip)
theorem copyA_moves {s a:HS} {t:Nat} {x y r:Value} (h:copyA P s t x y=some (r,a)):Moves s a:=by
 unfold copyA at h;repeat' (split at h <;> first | (cases h;done) | skip)
 all_goals first | (rename_i b;cases h;exact Jd b) | (cases h;exact .stay rfl)
theorem convA_moves {s c:HS} {b a:Nat} {x r:Value} (h:convA P s b a x=some (r,c)):Moves s c:=by
 unfold convA at h;repeat' (split at h <;> first | (cases h;done) | (exact Fk h) | skip)
 all_goals (cases h;exact .stay rfl)
theorem unStrA_moves {s a:HS} {c:Nat} {x n r:Value} (h:Xn P s c x n=some (r,a)):Moves s a:=by
 unfold Xn at h;repeat' (split at h <;> first | (cases h;done) | skip)
 rename_i b;cases h
 exact .drop _ b
theorem Rn {s a:HS} {t:Nat} {m k v:Value} (h:It P s t m k v=some a):Moves s a:=by
 unfold It at h;simp only[Ki,Dx]at h;repeat' (split at h <;> first | (cases h;done) | (exact .put _ _ h) | skip)
theorem Gi {s a:HS} {x:Option Value} {v:Value} (h:Ts s x=some (.val v a)):x=some v/\a=s:=by
 unfold Ts at h;split at h <;> cases h
 exact⟨rfl,rfl⟩
theorem Ca {a:HS} {x:Option (Value×HS)} {v:Value} (h:Kr x=some (.val v a)):x=some (v,a):=by
 unfold Kr at h;split at h <;> cases h
 rfl
theorem Nu {a:HS} {x:Option HS} {v:Value} (h:unitV x=some (.val v a)):x=some a/\v=undef:=by
 unfold unitV at h;split at h <;> cases h
 exact⟨rfl,rfl⟩
theorem Jt {s:HS} {x:Option Value} {g:Nat} {args:List Value} (h:Ts s x=some (.enter g args)):False:=by
 unfold Ts at h;split at h <;> cases h
theorem Dm {x:Option (Value×HS)} {g:Nat} {args:List Value} (h:Kr x=some (.enter g args)):False:=by
 unfold Kr at h;split at h <;> cases h
theorem Ty {x:Option HS} {g:Nat} {args:List Value} (h:unitV x=some (.enter g args)):False:=by
 unfold unitV at h;split at h <;> cases h
theorem Sw {s a:HS} {g:Nat} {args:List Value} {v:Value} (h:Px P s g args=some (.val v a)):a=s/\(∀x∈args,bare x=true)/\bare v=true/\∀w,(callFunc g args.toArray).run P w=.ok (.value v) w:=by
 unfold Px at h;split at h <;> first | (cases h;done) | skip
 rename_i b;split at h <;> first | (cases h;done) | skip
 rename_i r c;split at h <;> first | (cases h;done) | skip
 rename_i hr;cases h
 exact⟨rfl,List.all_eq_true.1 b,hr,fun w=>Db _ _ c w⟩
theorem Yh {s:HS} {g b:Nat} {args a:List Value} (h:Px P s g args=some (.enter b a)):False:=by
 unfold Px at h;split at h <;> first | (cases h;done) | skip
 split at h <;> first | (cases h;done) | skip
 split at h <;> cases h
theorem Vk {s:HS} {g b:Nat} {args a:List Value} (h:Si P s g args=some (.enter b a)):b=g/\a=args/\∃fn c,P.funcs[g]? =some fn/\fn.body=some c/\(fn.name== "runtime.NumGoroutine")=false:=by
 unfold Si at h;split at h
 ·rename_i fn e
  split at h
  ·rename_i c i d
   cases h
   exact⟨rfl,rfl,fn,c,e,d,i⟩
  ·split at h
   · cases h
   ·split at h
    ·split at h
     · exact (Dm h).elim
     · cases h
    · exact (Yh h).elim
  · cases h
 · cases h
theorem callA_moves {s a:HS} {g:Nat} {args:List Value} {v:Value} (h:Si P s g args=some (.val v a)):Moves s a:=by
 unfold Si at h;split at h
 ·split at h
  · cases h
  ·split at h
   · cases h;exact .stay rfl
   ·split at h
    ·split at h
     · exact Fk (Ca h)
     · cases h
    · exact .stay (Sw h).1
  · cases h
 · cases h
theorem Ok {x:Option AR} {v:Value} {s:HS} (h:Kp x=some (.val v s)):False:=by
 unfold Kp at h;split at h <;> cases h
theorem Uh {x:Option AR} {g:Nat} {args:List Value} (h:Kp x=some (.enter g args)):x=some (.enter g args):=by
 unfold Kp at h;split at h <;> cases h
 rfl
theorem runOp_moves {G:Gl} {f:AF} {s a:HS} {o:Oper} {v:Value} (h:Tn P G f s o=some (.val v a)):Moves s a:=by
 unfold Tn at h;split at h
 · cases h
 ·split at h
  · cases h;exact .stay rfl
  ·split at h
   · exact .stay (Gi h).2
   · exact storeA_moves (Nu h).1
   ·split at h
    · exact Oj (Ca h)
    · cases h
   · exact .stay (Gi h).2
   · exact Oj (Ca h)
   · exact Jh (Ls (Ca h))
   · exact Rm (Ca h)
   ·split at h
    · cases h;exact .stay rfl
    · exact convA_moves (Ca h)
   ·split at h
    · rename_i b;cases h;exact .new _ b
    · cases h
   · exact .stay (Gi h).2
   · exact Rn (Nu h).1
   ·split at h
    · exact Yf (Ca h)
    · exact copyA_moves (Ca h)
    · exact .stay (Gi h).2
    · exact unStrA_moves (Ca h)
    ·split at h
     · exact callA_moves h
     · cases h
    ·split at h
     ·split at h
      · exact (Ok h).elim
      · cases h
     · cases h
    · cases h
   · cases h
def Does (P:Program) (E:Em) (s s':HS) (w:World) (v:Value) (x:Sem Next):Prop:=
 ∃l,s'.log=l++s.log/\∃E' v' w' nx,x.run P w=.ok nx w'/\(nx=.value v'\/(nx=.skip/\v'=undef))/\VR E' v v'/\Tx E s.at w s.next E' s'.at w' s'.next l
section
variable {E:Em} {w:World} {s s':HS}
theorem Kg {v a:Value} {x:Sem Value} (H:HR E s.at w) (b:VR E v a) (hr:x.run P w=.ok a w):Does P E s s w v (do pure (.value (<- x))):=
 ⟨[],rfl,E,a,w,.value a,by simp[hr],.inl rfl,b,Tx.refl _ H⟩
theorem Mi {r:Value} {x:Sem Value} (h:s'.next=s.next+1/\s'.log=s.log/\∃E' r' w',x.run P w=.ok r' w'/\VR E' r r'/\Tx E s.at w s.next E' s'.at w' (s.next+1) []):Does P E s s' w r (do pure (.value (<- x))):=by
 obtain⟨a,b,E',r',w',c,d,e⟩:=h;exact⟨[],by simpa using b,E',r',w',.value r',by simp[c],.inl rfl,d,by rw[a];exact e⟩
theorem Zi {x:Sem Unit} (h:s'.next=s.next/\∃b,s'.log=b::s.log/\∃w',x.run P w=.ok () w'/\Tx E s.at w s.next E s'.at w' s.next [b]):Does P E s s' w undef (do x;pure .skip):=by
 obtain⟨a,b,c,w',d,e⟩:=h;exact⟨[b],by simpa using c,E,undef,w',.skip,by simp[d],.inr ⟨rfl,rfl⟩,VR.undef,by rw[a];exact e⟩
theorem Lb {r:Value} {x:Sem Value} (h:Makes P E s s' w r x):Does P E s s' w r (do pure (.value (<- x))):=by
 obtain⟨l,c,_,b,a,i,d,e,g⟩:=h;exact⟨l,c,b,a,i,.value a,by simp[d],.inl rfl,e,g⟩
theorem callA_does {g:Nat} {args:List Value} {c:Array Value} {v:Value} (h:Si P s g args=some (.val v s')) (H:HR E s.at w) (R:s.next<s'.next->E s.next=none) (A:LR E args c.toList):
  Does P E s s' w v (callFunc g c):=by
 unfold Si at h;split at h
 ·rename_i fn m
  split at h
  · cases h
  ·rename_i W I
   split at h
   ·rename_i b o a
    cases h
    rw[Bool.and_eq_true]at a;obtain⟨y,G,r⟩:=Ko A;obtain⟨e,Q,rfl⟩:=Fq r;have u:c=#[.pointer (some ⟨e.blk,o,none⟩)]:=by apply Array.toList_inj.1;rw[G]
    refine⟨[],rfl,E,_,w,_,?_,.inl rfl,VR.ptr b o e Q,Tx.refl _ H⟩;rw[u];exact noEscape_run m (by simpa using a.1) (by simpa using a.2) I _ w
   ·split at h
    ·rename_i i t a T _
     split at h
     ·rename_i e n U hi
      have j:=Ca h;rw[Bool.and_eq_true]at a;obtain⟨rfl,J⟩:=Il hi;obtain⟨y,G,r⟩:=Ko A;obtain rfl:=Eh r;have u:c=#[.int .i64 (n:Int)]:=by apply Array.toList_inj.1;rw[G]
      have p:fn.resultTypes=#[t]:=by apply Array.toList_inj.1;rw[T]
      obtain⟨d,q,B,C⟩:=Lib.run_makeNoZero (P:=P) w fn.params t e U n (by omega);have S:s'.next=s.next+1:=by
       unfold Cc at j;split at j
       · rename_i X D;cases j;exact (HS.new_spec D).2.1
       · cases j
      have O:HR E s.at w.drew.drew:=H.world rfl;obtain⟨k1,k2,K,k3,k4⟩:=Gf (w:=w.drew.drew) (cur:=d) (fz:=(0,0)) (cap':=d.size) j O (R (by omega)) (by simp) (by simp[LR]) (.inl rfl) (.inr ⟨rfl,by omega⟩) B (by omega) (by
       have:=C (by unfold maxLen;omega);unfold maxLen at this;unfold unk;omega)
      refine⟨[],by simpa using k2,K,.slice (some ⟨w.drew.drew.heap.size,0,none⟩) n d.size,{w.drew.drew with heap:=w.drew.drew.heap.push (.cells d e (0,0))},.value (.slice (some ⟨w.drew.drew.heap.size,0,none⟩) n d.size),?_,.inl rfl,k3,?_⟩
      ·rw[u]
       exact Wo m (by simpa using a.1) (by simpa using a.2) I p q
      ·rw[k1]
       exact k4.drewL.drewL
     · cases h
    ·obtain⟨rfl,L,M,N⟩:=Sw h
     have z:=Ee A fun x V y r=>Pp (L x V) r;have l:c=c.toList.toArray:=by simp
     refine⟨[],rfl,E,v,w,_,?_,.inl rfl,Du v M,Tx.refl _ H⟩;rw[l,z];exact N w
  · cases h
 · cases h
theorem ov_map {x:Option Operand} {σ ρ:Operand->Value} (h:∀z,x=some z->VR E (σ z) (ρ z)):OV E (x.map σ) (x.map ρ):=by
 cases x with
 | none=>trivial
 | some z=>exact h z rfl
end
end
end Cx
namespace Cx
open Go
section
variable {P:Program} {E:Em} {w:World} {s s':HS}
theorem Sb {x y:Value} {q:List Value} (h:LR E [x,y] q):∃x' y',q= [x',y']/\VR E x x'/\VR E y y':=by
 cases q with
 | nil=>exact h.elim
 |cons a q=>
  obtain⟨b,rfl,c⟩:=Ko h.2;exact⟨a,b,rfl,h.1,c⟩
theorem runOp_does {G:Gl} {f:AF} {o:Oper} {v:Value} {ρ:Operand->Value} (h:Tn P G f s o=some (.val v s')) (H:HR E s.at w) (hr:∀z∈o.op.operands,VR E (ev f z) (ρ z))
  (K:s.next<s'.next->E s.next=none):Does P E s s' w v (execOp ρ o):=by
 unfold Tn at h;split at h
 · cases h
 ·rename_i a0
  clear a0;split at h
  ·rename_i v0 a1
   cases h
   obtain⟨V,a,q⟩:=Lg a1 hr;exact⟨[],rfl,E,V,w,.value V,q w,.inl rfl,a,Tx.refl _ H⟩
  ·rename_i T
   clear T;obtain⟨j,op,b,pos,after,e⟩:=o;simp only at h hr;split at h
   ·rename_i t x
    obtain⟨a,rfl⟩:=Gi h;obtain⟨V,q,D⟩:=Zy (P:=P) a H (hr x (by simp[Op.operands]));exact Kg H q D
   ·rename_i t x y
    obtain⟨a,rfl⟩:=Nu h;exact Zi (storeA_run (P:=P) a H (hr x (by simp[Op.operands])) (hr y (by simp[Op.operands])))
   ·rename_i t
    split at h
    ·rename_i z U
     have a:=Ca h;obtain⟨a4,a3,_⟩:=Kt U;have L:s'.next=s.next+1:=by
      unfold Jp at a;split at a
      · rename_i s2 S;cases a;exact (HS.new_spec S).2.1
      · cases a
     obtain⟨k1,k2,E',r',w',k3,k4,k5⟩:=Th (P:=P) a H (K (by omega)) (Du z a3);exact Mi ⟨k1,k2,E',.pointer (some r'),w',by simp[Instr.alloc,a4,k3],k4,k5⟩
    · cases h
   ·rename_i t x lo hi mx
    obtain⟨a,rfl⟩:=Gi h;obtain⟨V,q,D⟩:=sliceA_run (P:=P) a H (hr x (by simp[Op.operands])) (ov_map (ρ:=ρ) fun z U=>hr z (by simp[Op.operands,U])) (ov_map (ρ:=ρ) fun z U=>hr z (by simp[Op.operands,U]))
     (ov_map (ρ:=ρ) fun z U=>hr z (by simp[Op.operands,U]))
    exact Kg H q D
   ·rename_i t x
    have a:=Ca h;have L:s'.next=s.next+1:=by
     unfold Jp at a;split at a
     · rename_i s2 S;cases a;exact (HS.new_spec S).2.1
     · cases a
    obtain⟨k1,k2,E',r',w',k3,k4,k5⟩:=Th (P:=P) a H (K (by omega)) (hr x (by simp[Op.operands]));exact Mi ⟨k1,k2,E',.pointer (some r'),w',by simp[Instr.box,k3],k4,k5⟩
   ·rename_i t n a5
    have a:=Ls (Ca h);obtain⟨l,r⟩:=(Jh a).keeps;have L:s'.next=s.next+1:=by
     unfold Co Cc at a;repeat' (split at a <;> first | (cases a;done) | skip)
     all_goals (rename_i W;first | (cases a;exact (HS.new_spec W).2.1) | skip)
     all_goals (split at W <;> first | (cases W;done) | skip)
    refine Mi (Ub (P:=P) a H (K (by omega)) ?_);simp only[Array.toList_map];exact pl_map _ fun p hp=>hr p.2 (by
     simp only[Op.operands,List.mem_toArray,List.mem_map];exact⟨p,hp,rfl⟩)
   ·rename_i t l c
    have a:=Ca h;have L:s'.next=s.next+1:=by
     unfold Hh Cc at a;repeat' (split at a <;> first | (cases a;done) | skip)
     all_goals (rename_i W;first | (cases a;exact (HS.new_spec W).2.1) | skip)
    exact Mi (Wp (P:=P) a H (K (by omega)) (hr l (by simp[Op.operands])) (hr c (by simp[Op.operands])))
   ·rename_i a6 j x
    split at h
    ·rename_i v1 a2
     cases h
     obtain⟨V,q,D⟩:=convPtrA_run (P:=P) a2 H (hr x (by simp[Op.operands]));exact Kg H q D
    ·have a:=Ca h
     exact Lb (convA_run (P:=P) a H K (hr x (by simp[Op.operands])))
   ·rename_i t
    split at h
    ·rename_i s1 L
     cases h
     exact Mi (makeMap_run (P:=P) L H (K (by have:=(HS.new_spec L).2.1;omega)))
    · cases h
   ·rename_i t m k ok
    obtain⟨a,rfl⟩:=Gi h;obtain⟨V,q,D⟩:=lookupA_run (P:=P) a H (hr m (by simp[Op.operands])) (hr k (by simp[Op.operands]));exact Kg H q D
   ·rename_i t m k v0
    obtain⟨a,rfl⟩:=Nu h;exact Zi (Wq (P:=P) a H (hr m (by simp[Op.operands])) (hr k (by simp[Op.operands])) (hr v0 (by simp[Op.operands])))
   ·rename_i c
    obtain⟨A,args,J⟩:=c;simp only at h;have R:∀p∈args.toList,VR E (ev f p) (ρ p):=fun p hp=>hr p (by cases A <;> simp[Op.operands,Call.operands,Array.mem_toList_iff.1 hp])
    have r:=Li (E:=E) args.toList R;split at h
    ·rename_i x y t u B C
     have a:=Ca h;rw[B]at r;obtain⟨N,Y,O,M,hy⟩:=Sb r;have Q:args.map ρ=#[N,Y]:=by apply Array.toList_inj.1;rw[Array.toList_map,O]
     have X:J=#[t,u]:=by apply Array.toList_inj.1;rw[C]
     have:=Lb (appendA_run (P:=P) (ty:=b) a H K M hy);have I:execOp ρ ⟨j,.call ⟨.builtin .append,args,J⟩,b,pos,after,e⟩=(do pure (.value (<- Builtin.append_ #[t,u] b #[N,Y]))):=by
      simp[execOp,resolve,invoke,builtin,Q,X]
     rw[I];exact this
    ·rename_i x y t tr B C
     have a:=Ca h;rw[B]at r;obtain⟨N,Y,O,M,hy⟩:=Sb r;have Q:args.map ρ=#[N,Y]:=by apply Array.toList_inj.1;rw[Array.toList_map,O]
     have:=Lb (copyA_run (P:=P) (ty:=b) a C H M hy);have I:execOp ρ ⟨j,.call ⟨.builtin .copy,args,J⟩,b,pos,after,e⟩=(do pure (.value (<- Builtin.copy_ J b #[N,Y]))):=by
      simp[execOp,resolve,invoke,builtin,Q]
     rw[I];exact this
    ·rename_i m t B C
     obtain⟨a,rfl⟩:=Gi h;rw[B]at r;obtain⟨m',O,hm⟩:=Ko r;have Q:args.map ρ=#[m']:=by apply Array.toList_inj.1;rw[Array.toList_map,O]
     have X:J=#[t]:=by apply Array.toList_inj.1;rw[C]
     obtain⟨V,q,D⟩:=lenMapA_run (P:=P) (ty:=b) a H hm;have:=Kg H q D;have I:execOp ρ ⟨j,.call ⟨.builtin .len,args,J⟩,b,pos,after,e⟩=(do pure (.value (<- Builtin.len_ #[t] b #[m']))):=by
      simp[execOp,resolve,invoke,builtin,Q,X]
     rw[I];exact this
    ·rename_i x n t u B C
     have a:=Ca h;rw[B]at r;obtain⟨N,n',O,M,L⟩:=Sb r;have Q:args.map ρ=#[N,n']:=by apply Array.toList_inj.1;rw[Array.toList_map,O]
     have X:J=#[t,u]:=by apply Array.toList_inj.1;rw[C]
     have:=Lb (unStrA_run (P:=P) (it:=u) (ty:=b) a H M L);have I:execOp ρ ⟨j,.call ⟨.builtin .unsafeString,args,J⟩,b,pos,after,e⟩=(do pure (.value (<- Builtin.unsafeString_ #[t,u] b #[N,n']))):=by
      simp[execOp,resolve,invoke,builtin,Q,X]
     rw[I];exact this
    ·rename_i x
     have M:=hr x (by simp[Op.operands,Call.operands]);split at h
     ·rename_i g1 first i B
      rw[B]at M;obtain⟨g,d,C,l1,l2⟩:=M.func_inv;have hL:LR E (first.toList++args.toList.map (ev f)++i.toList) (g++args.map ρ++d).toList:=by
       simp only[Array.toList_append,Array.toList_map];exact (l1.append r).append l2
      have I:execOp ρ ⟨j,.call ⟨.value x,args,J⟩,b,pos,after,e⟩=callFunc g1 (g++args.map ρ++d):=by
       simp[execOp,resolve,C,Deferred.ofValue,invoke]
      rw[I];exact callA_does h H K hL
     · cases h
    ·split at h
     ·split at h
      · exact (Ok h).elim
      · cases h
     · cases h
    · cases h
   · cases h
theorem runOp_enters {G:Gl} {f:AF} {o:Oper} {g:Nat} {args:List Value} {ρ:Operand->Value} (h:Tn P G f s o=some (.enter g args)) (hr:∀z∈o.op.operands,VR E (ev f z) (ρ z)):
  ∃args':Array Value,LR E args args'.toList/\∀w,(execOp ρ o).run P w=.ok (.enter g args') w:=by
 unfold Tn at h;split at h
 · cases h
 ·rename_i N
  clear N;split at h
  · cases h
  ·rename_i m
   clear m;obtain⟨R,op,Q,pos,after,D⟩:=o;simp only at h hr;split at h
   · exact (Jt h).elim
   · exact (Ty h).elim
   ·split at h
    · exact (Dm h).elim
    · cases h
   · exact (Jt h).elim
   · exact (Dm h).elim
   · exact (Dm h).elim
   · exact (Dm h).elim
   ·split at h
    · cases h
    · exact (Dm h).elim
   · split at h <;> cases h
   · exact (Jt h).elim
   · exact (Ty h).elim
   ·rename_i c
    obtain⟨e,a,Y⟩:=c;simp only at h;have j:∀p∈a.toList,VR E (ev f p) (ρ p):=fun p W=>hr p (by cases e <;> simp[Op.operands,Call.operands,Array.mem_toList_iff.1 W])
    have O:=Li (E:=E) a.toList j;split at h
    · exact (Dm h).elim
    · exact (Dm h).elim
    · exact (Jt h).elim
    · exact (Dm h).elim
    ·rename_i x
     have y:=hr x (by simp[Op.operands,Call.operands]);split at h
     ·rename_i S first u B
      obtain⟨rfl,rfl,fn,c,J,I,M⟩:=Vk h;rw[B]at y;obtain⟨i,b,C,l1,l2⟩:=y.func_inv;refine⟨i++a.map ρ++b,?_,fun w=>?_⟩
      ·simp only[Array.toList_append,Array.toList_map]
       exact (l1.append O).append l2
      ·have l:fn.name≠ "runtime.NumGoroutine" :=by simpa using M
       simp[execOp,resolve,C,Deferred.ofValue,invoke,callFunc,J,I,l]
     · cases h
    ·rename_i r A
     have y:=hr r (by simp[Op.operands,Call.operands]);split at h
     ·rename_i t v B
      split at h
      ·rename_i S V
       obtain⟨rfl,rfl,fn,c,J,I,M⟩:=Vk (Uh h);rw[B]at y;obtain⟨d,C,X⟩:∃d,ρ r=.iface t d/\VR E v d:=by
        generalize ρ r=q at y;cases y with
        | iface t v d h=>exact⟨_,rfl,h⟩
       refine⟨#[d]++a.map ρ,?_,fun w=>?_⟩
       ·simp only[Array.toList_append,Array.toList_map]
        exact⟨X,O⟩
       ·have l:fn.name≠ "runtime.NumGoroutine" :=by simpa using M
        have L:=fun n=>methodF_run (P:=P) V d n w;have U:(#[Value.iface t d]++a.map ρ).extract 1 (#[Value.iface t d]++a.map ρ).size=a.map ρ:=by
         apply Array.toList_inj.1;rw[Array.toList_extract];simp;rw[List.take_of_length_le (by simp)]
        have T:(#[Value.iface t d]++a.map ρ)[0]? =some (Value.iface t d):=by
         rw[Array.getElem?_append_left (by simp)];rfl
        have K:(method (P.types.size+Made.depth) t d A).run P w=.ok (g,d) w:=L (P.types.size+99);simp only[execOp,resolve,Sem.run_bind,Sem.run_pure,Result.andThen_ok,C,invoke,T,U,callMethod];simp[K,callFunc,J,I,l]
      · cases h
     · cases h
    · cases h
   · cases h
end
end Cx
namespace Cx
open Go
def DR (E:Em):List (FuncId×List Value)->List Deferred->Prop
 | [],[]=>True
 | x::r,d::ds=>(∃cap args,d=⟨.fn (.func x.1) cap,args⟩/\LR E x.2 (args++cap).toList)/\DR E r ds
 | _,_=>False
theorem DR.ext {E a:Em} (b:Ext E a):∀ {xs:List (FuncId×List Value)} {c:List Deferred},DR E xs c->DR a xs c
 | [],[],_=>trivial
 | _::_,_::_,⟨⟨cap,args,h1,h2⟩,h⟩=>⟨⟨cap,args,h1,h2.ext b⟩,DR.ext b h⟩
 | [],_::_,h=>h.elim
 | _::_,[],h=>h.elim
def AX.out:AX->Exit
 | .normal=>.normal
 | .exit i=>.exit i
 | .ret=>.ret
def Fresh (E:Em) (n n':Nat):Prop:=∀b,n<=b->b<n'->E b=none
theorem GL.ext {E a:Em} {G:Gl} (h:GL E G) (b:Ext E a):GL a G:=fun g hg=>let ⟨e,h1,h2⟩:=h g hg; ⟨e,b _ _ h1,h2⟩
theorem TR.ext {E b:Em} {f:AF} {a:Act} (h:TR E f a) (c:Ext E b):TR b f a:=⟨h.size,fun t=>(h.get t).ext c⟩
theorem Fresh.one {E:Em} {n n':Nat} (h:Fresh E n n') (a:n<n'):E n=none:=h n (Nat.le_refl n) a
theorem Fresh.after {E c:Em} {h g:Hp} {w j:World} {n n' a:Nat} {l:List Nat} (F:Fresh E n a) (T:Tx E h w n c g j n' l):Fresh c n' a:=by
 intro b m i;cases hb:c b with
 | none=>rfl
 |some e=>
  have:=T.le;rcases T.dom b e hb with d | d
  · rw[F b (by omega) i]at d;cases d
  · omega
theorem Fresh.sub {E:Em} {n n' m a:Nat} (F:Fresh E n n') (c:n<=m) (d:a<=n'):Fresh E m a:=fun b h3 h4=>F b (by omega) (by omega)
section
variable {P:Program} {E:Em} {w:World}
theorem AF.put_spec {f f':AF} {t:Nat} {v:Value} (h:f.put t v=some f'):t<f.size/\f'.size=f.size/\f'.defers=f.defers/\∀j,f'.get j=if j=t then v else f.get j:=by
 rw[AF.put_old]at h;split at h
 ·rename_i a b
  cases h
  have a:t<f.size:=by simpa [Nat.blt_eq] using a
  have b:=Cv b;refine⟨a,rfl,rfl,fun j=>?_⟩;unfold AF.get;by_cases hj:j=t
  ·subst hj
   rw[if_pos rfl];show ((f.tmps.set deep j (some v)).get j).getD undef=v;rw[Tr.Fp _ _ _ (by unfold deep;unfold lim at b;omega)];rfl
  ·rw[if_neg hj]
   show ((f.tmps.set deep t (some v)).get j).getD undef=_;rw[Tr.Cw _ _ _ _ hj]
 · cases h
theorem AF.putO_spec {f f':AF} {d:Option Nat} {v:Value} (h:f.putO d v=some f'):f'.size=f.size/\f'.defers=f.defers/\∀j,f'.get j=if d=some j then v else f.get j:=by
 cases d with
 | none=>cases h;exact⟨rfl,rfl,fun j=>by simp⟩
 |some t=>
  obtain⟨_,a,b,c⟩:=AF.put_spec h;refine⟨a,b,fun j=>?_⟩;rw[c j];by_cases hj:j=t
  · subst hj;simp
  · rw[if_neg hj,if_neg (by simpa using Ne.symm hj)]
theorem Sd (a:Act) (d:Option Nat) (v:Value) (t:Nat) (c:∀d',d=some d'->d'<a.tmps.size):(a.put d v).tmps.getD t undef=if d=some t then v else a.tmps.getD t undef:=by
 cases d with
 | none=>simp[Act.put]
 |some d=>
  have b:=c d rfl;simp only[Act.put,Array.getD_eq_getD_getElem?];by_cases ht:d=t
  ·subst ht
   rw[if_pos rfl,Array.getElem?_setIfInBounds];simp[b]
  · rw[if_neg (by simpa using ht),Array.getElem?_setIfInBounds_ne ht]
theorem Ku (a:Act) (d:Option Nat) (v:Value):(a.put d v).tmps.size=a.tmps.size:=by cases d <;> simp[Act.put]
theorem Dt (a:Act) (d:Option Nat) (v:Value):(a.put d v).defers=a.defers:=by cases d <;> rfl
theorem putO_lt {f f':AF} {d:Option Nat} {v:Value} (h:f.putO d v=some f'):∀d',d=some d'->d'<f.size:=by
 intro d' a;subst a;exact (AF.put_spec h).1
theorem TR.put {f f':AF} {a:Act} {d:Option Nat} {v b:Value} (T:TR E f a) (h:f.putO d v=some f') (j:VR E v b):TR E f' (a.put d b):=by
 obtain⟨e,_,g⟩:=AF.putO_spec h;refine⟨by rw[Ku,T.size,e],fun t=>?_⟩;rw[g t,Sd a d b t fun c i=>by rw[T.size];exact putO_lt h c i];split
 · exact j
 · exact T.get t
theorem not_bool {x y:Value} (h:VR E x y) {b:Bool} (a:y=.bool b):x=.bool b:=by
 subst a;cases h;rfl
theorem Xs {ops:Array Oper} {f:AF} {a:Act} {o:Oper} (h:∀g wt t,o.guard=some (g,wt)->(ops[g]?).bind (·.dst)=some t->VR E (f.get t) (a.tmps.getD t undef)):
  Region.wanted o (yielded ops a.tmps)=Hn ops f o:=by
 unfold Region.wanted Hn;cases hg:o.guard with
 | none=>rfl
 |some gw=>
  obtain⟨g,wt⟩:=gw;simp only;unfold yielded;cases ht:(ops[g]?).bind (·.dst) with
  | none=>simp
  |some t=>
   have i:=h g wt t hg ht;simp only[Option.bind_some];have d:∀b,(a.tmps[t]? =some (.bool b))↔f.get t=.bool b:=by
    intro b;constructor
    ·intro c
     refine not_bool i ?_;rw[Array.getD_eq_getD_getElem?,c];rfl
    ·intro c
     rw[c]at i;have:=Im i;rw[Array.getD_eq_getD_getElem?]at this;cases hx:a.tmps[t]? with
     | none=>rw[hx]at this;cases this
     | some y=>rw[hx]at this;simp only[Option.getD_some]at this;rw[this]
   split
   ·rename_i b c
    rw[d]at c;rw[c];cases b <;> cases wt <;> rfl
   ·rename_i e
    split
    ·rename_i b c
     rw[<- d]at c;exact absurd c (e b)
    · cases wt <;> rfl
theorem Oi:∀(l:List Value) (i:Nat) (t:Tr Value) (j:Nat),i+l.length<=lim->(Hg l i t).get j=if i<=j/\j<i+l.length then l[j-i]? else t.get j
 | [],i,t,j,_=>by
   simp only[Hg,List.length_nil,Nat.add_zero];rw[if_neg (by omega)]
 | v::l,i,t,j,h=>by
   simp only[List.length_cons]at h ⊢;simp only[Hg];rw[Oi l (i+1) _ j (by omega)];by_cases h1:j=i
   ·subst h1
    rw[if_neg (by omega),if_pos (by omega),Tr.Fp _ _ _ (by unfold deep;unfold lim at h;omega)];simp
   ·rw[Tr.Cw _ _ _ _ h1]
    by_cases h2:i+1<=j/\j<i+1+l.length
    ·rw[if_pos h2,if_pos (by omega)]
     have:j-i=(j-(i+1))+1:=by omega
     rw[this,List.getElem?_cons_succ]
    · rw[if_neg h2,if_neg (by omega)]
theorem Vw {fn:Func} {args:List Value} {a:Array Value} (h:LR E args a.toList) (e:args.length<=lim):
  TR E (Ml fn args) {tmps:=a++Array.replicate (fn.ntmps-a.size) undef,defers:= []}:=by
 have c:args.length=a.size:=by simpa using h.length
 refine⟨by simp[Ml,c],fun t=>?_⟩;unfold Ml AF.get;simp only;rw[Oi args 0 .leaf t (by omega)];simp only[Nat.zero_le,true_and,Nat.zero_add,Nat.sub_zero,Tr.get_leaf,Array.getD_eq_getD_getElem?];by_cases ht:t<args.length
 ·rw[if_pos ht,Array.getElem?_append_left (by omega)]
  obtain⟨y,b,d⟩:=h.at t args[t] (by simp[ht]);rw[Array.getElem?_toList]at b;rw[b,List.getElem?_eq_getElem ht];exact d
 ·rw[if_neg ht,Array.getElem?_append_right (by omega)]
  have:((Array.replicate (fn.ntmps-a.size) undef)[t-a.size]?).getD undef=undef:=by
   rw[Array.getElem?_replicate];split <;> rfl
  rw[this];exact VR.undef
def Xb (a:Act):ResultVar->Sem Value
 | .tmp t=>pure (a.tmps.getD t undef)
 | .cell c t=>do loadVar t (<- asAddr (a.tmps.getD c undef))
theorem results_eq (fn:Func) (a:Act):results fn a.tmps=(do let vs<-fn.results.mapM (Xb a);pure (if h:vs.size=1 then vs[0] else .tuple vs)):=by
 have:(fun r:ResultVar=>match r with
  | .tmp t=>pure (a.tmps.getD t undef)
  | .cell c t=>(do loadVar t (<- asAddr (a.tmps.getD c undef)):Sem Value))=Xb a:=by
  funext r
  cases r <;> rfl
 rw[<- this];rfl
theorem resultA_run {f:AF} {s:HS} {a:Act} {r:ResultVar} {v:Value} (T:TR E f a) (H:HR E s.at w) (h:Ql P f s r=some v):
  ∃v',VR E v v'/\(Xb a r).run P w=.ok v' w:=by
 cases r with
 | tmp t=>cases h;exact⟨_,T.get t,rfl⟩
 |cell c t=>
  have g:Zx P s t (f.get c)=some v:=h;obtain⟨v',l,j⟩:=Zy (P:=P) g H (T.get c);refine⟨v',l,?_⟩;have d:∃b o,f.get c=.pointer (some ⟨b,o,none⟩):=by
   unfold Zx at g;split at g
   · rename_i b o d;exact⟨b,o,Rr d⟩
   · cases g
  obtain⟨b,o,d⟩:=d;have i:=T.get c;rw[d]at i;obtain⟨e,m,i⟩:=Fq i;show (do loadVar t (<- asAddr (a.tmps.getD c undef)):Sem Value).run P w=_;rw[i]at j ⊢;simpa [Instr.loadAt,Instr.sureAddr,asAddr] using j
theorem Lo {f:AF} {s:HS} {a:Act} (T:TR E f a) (H:HR E s.at w):∀(l:List ResultVar) (b:List Value),l.mapM (Ql P f s)=some b->
  ∃vs',LR E b vs'/\(l.mapM (Xb a)).run P w=.ok vs' w
 | [],b,h=>by simp at h;subst h;exact⟨[],trivial,rfl⟩
 |r::l,b,h=>by
  simp only[List.mapM_cons,Option.bind_eq_bind,Option.pure_def]at h;cases h1:Ql P f s r with
  | none=>simp[h1]at h
  |some v=>
   cases h2:l.mapM (Ql P f s) with
   | none=>simp[h1,h2]at h
   |some vs0=>
    simp[h1,h2]at h;subst h;obtain⟨v',k1,k2⟩:=resultA_run T H h1;obtain⟨vs',k3,k4⟩:=Lo T H l vs0 h2;refine⟨v'::vs',⟨k1,k3⟩,?_⟩;rw[List.mapM_cons,Sem.run_bind,k2];simp only[Result.andThen_ok];rw[Sem.run_bind,k4];rfl
theorem Tl {a:Act} {fn:Func} {b:List Value} (k2:(fn.results.toList.mapM (Xb a)).run P w=.ok b w):(results fn a.tmps).run P w=.ok (if h:b.toArray.size=1 then b.toArray[0] else .tuple b.toArray) w:=by
 have:=congrArg (fun r=>Result.andThen r fun a w=>Result.ok (List.toArray a) w) k2;simp only[Result.andThen_ok]at this;rw[<- Sem.run_map,<-List.mapM_toArray]at this;simp only[Array.toArray_toList]at this;rw[results_eq,Sem.run_bind,this];rfl
theorem resultsA_run {f:AF} {s:HS} {a:Act} {fn:Func} {v:Value} (T:TR E f a) (H:HR E s.at w) (h:Mx P f s fn.results.toList=some v):
  ∃v',VR E v v'/\(results fn a.tmps).run P w=.ok v' w:=by
 unfold Mx at h;split at h
 ·rename_i l d
  cases h
  obtain⟨c,k1,k2⟩:=Lo T H _ _ d;obtain⟨v',rfl,i⟩:=Ko k1;exact⟨v',i,Tl k2⟩
 ·rename_i j b d
  cases h
  obtain⟨c,k1,k2⟩:=Lo T H _ _ d;refine⟨.tuple c.toArray,VR.tuple' (by simpa using k1),?_⟩;have g:¬c.toArray.size=1:=by
   have:=k1.length;intro e
   match j,b,this with
   | [],_,h=>simp at h e;omega
   | [x],b,_=>exact b x rfl
   | _::_::_,_,h=>simp at h e;omega
  rw[Tl k2,dif_neg g]
 · cases h
end
end Cx
namespace Cx
open Go
def patch (N:List Nat) (h g:Hp):Hp:=fun b=>if b∈N then h b else g b
theorem Tx.lift {E J:Em} {h g K:Hp} {w T:World} {n n':Nat} {l N:List Nat} (A:Tx E h w n J K T n' l) (H:HR E g w) (sub:∀b o,h b=some o->g b=some o) (F:Fresh E n n')
  (S:∀b,b∈N↔(n<=b/\b<n')\/b∈l):Tx E g w n J (patch N K g) T n' l:=by
 have r:∀b o,g b=some o->¬(n<=b/\b<n'):=by
  intro b o j x;obtain⟨e,q,_⟩:=H.here b o j;rw[F b x.1 x.2]at q;cases q
 have G:∀b,b∉N->(b<n\/n'<=b)/\b∉l:=by
  intro b j;rw[S]at j;simp only[not_or]at j;refine⟨?_,j.2⟩;rcases Nat.lt_or_ge b n with i | i
  · exact .inl i
  ·rcases Nat.lt_or_ge b n' with a | a
   · exact absurd ⟨i,a⟩ j.1
   · exact .inr a
 have split:∀b o,patch N K g b=some o->K b=some o\/(h b=none/\g b=some o/\b∉N):=by
  intro b o j;unfold patch at j;split at j
  · exact .inl j
  ·rename_i O
   cases hh:h b with
   | none=>exact .inr ⟨rfl,j,O⟩
   |some m=>
    left;obtain⟨i,a⟩:=G b O;rw[A.keep b i a,hh];have:=sub b m hh;rw[this]at j;exact j
 have apart:∀b o e,h b=none->g b=some o->E b=some e->∀I m p,h I=some m->E I=some p->p.blk≠e.blk:=by
  intro b o e i a t I m p C Q x;have:=H.inj I b m o p e (sub _ _ C) a Q t x;subst this;rw[i]at C;cases C
 have y:∀b o e,g b=some o->J b=some e->E b=some e:=by
  intro b o e i a;rcases A.dom b e a with t | t
  · exact t
  · exact absurd t (r b o i)
 have z:∀b c o m e p,K b=some o->h c=none->g c=some m->J b=some e->J c=some p->e.blk=p.blk->b=c:=by
  intro b c o m e p j P B q u x;have D:=y c m p B u;by_cases hnew:n<=b/\b<n'
  ·rcases A.news b o e hnew.1 hnew.2 j q with i | ⟨d,od,U,i,a,t⟩
   ·have:=H.lt B D
    omega
   · exact absurd (t.trans x) (apart c m p P B D d od U i a)
  ·rcases A.domle b o j with ⟨o1,i⟩ | i
   ·rcases A.dom b e q with a | a
    · exact absurd x (apart c m p P B D b o1 e i a)
    · exact absurd a hnew
   · exact absurd i hnew
 refine⟨A.le,A.ext,A.dom,⟨?_,?_⟩,?_,?_,?_,?_,A.size,A.os,A.tape,A.output⟩
 ·intro b o j
  rcases split b o j with i | ⟨i,a,t⟩
  · exact A.hr.here b o i
  ·obtain⟨e,q,Y⟩:=H.here b o a
   refine⟨e,A.ext _ _ q,?_⟩;rw[A.frame e.blk (H.lt a q) fun I m p C Q=>apart b o e i a q I m p C Q];exact Y.ext A.ext
 ·intro b c o m e p j V q u x
  rcases split b o j with i | ⟨i,a,t⟩ <;> rcases split c m V with k1 | ⟨k1,k2,k3⟩
  · exact A.hr.inj b c o m e p i k1 q u x
  · exact z b c o m e p i k1 k2 q u x
  · exact (z c b m o p e k1 i a u q x.symm).symm
  · exact H.inj b c o m e p a k2 (y b o e a q) (y c m p k2 u) x
 ·intro b j X
  unfold patch;rw[if_neg];rw[S];simp only[not_or];exact⟨by omega,X⟩
 ·intro b o j
  rcases split b o j with i | ⟨i,a,t⟩
  ·rcases A.domle b o i with ⟨m,a⟩ | a
   · exact .inl ⟨m,sub _ _ a⟩
   · exact .inr a
  · exact .inl ⟨o,a⟩
 ·intro b o e L M j q
  rcases split b o j with i | ⟨i,a,t⟩
  ·rcases A.news b o e L M i q with a | ⟨c,m,p,a,t,C⟩
   · exact .inl a
   · exact .inr ⟨c,m,p,sub _ _ a,t,C⟩
  · exact absurd ⟨L,M⟩ (r b o a)
 ·intro k W R
  exact A.frame k W fun b o e j q=>R b o e (sub _ _ j) q
theorem Tx.within {E y O:Em} {h z P:Hp} {w R S:World} {n n1 m N:Nat} {l l1:List Nat}
  (A:Tx E h w n y z R n1 l) (B:Tx y z R m O P S N l1) (W:n<=m) (V:N<=n1):Tx E h w n O P S n1 (l1++l):=by
 refine⟨A.le,A.ext.trans B.ext,?_,B.hr,?_,?_,?_,?_,Nat.le_trans A.size B.size,B.os.trans A.os,B.tape.trans A.tape,B.output.trans A.output⟩
 ·intro b e a
  rcases B.dom b e a with a | a
  · exact A.dom b e a
  · exact .inr (by omega)
 ·intro b a L
  simp only[List.mem_append,not_or]at L;rw[B.keep b (by omega) L.1,A.keep b a L.2]
 ·intro b o a
  rcases B.domle b o a with ⟨i,a⟩ | a
  · exact A.domle b i a
  · exact .inr (by omega)
 ·intro b o e T U a t
  have u:∀c i j,z c=some i->y c=some j->w.heap.size<=j.blk\/∃c r e'',h c=some r/\E c=some e''/\e''.blk=j.blk:=by
   intro c i j x p;by_cases hcn:n<=c/\c<n1
   · exact A.news c i j hcn.1 hcn.2 x p
   ·rcases A.domle c i x with ⟨r,J⟩ | g
    ·rcases A.dom c j p with hec' | g
     · exact .inr ⟨c,r,j,J,hec',rfl⟩
     · exact absurd g hcn
    · exact absurd g hcn
  by_cases hnew:m<=b/\b<N
  ·rcases B.news b o e hnew.1 hnew.2 a t with g | ⟨c,i,j,x,p,d⟩
   · exact .inl (Nat.le_trans A.size g)
   ·rw[<- d]
    exact u c i j x p
  ·rcases B.domle b o a with ⟨i,M⟩ | g
   ·rcases B.dom b e t with K | g
    · exact u b i e M K
    · exact absurd g hnew
   · exact absurd g hnew
 ·intro k Q q
  rw[B.frame k (Nat.lt_of_lt_of_le Q A.size) ?_,A.frame k Q q];intro b o e a t d;by_cases hbn:n<=b/\b<n1
  ·rcases A.news b o e hbn.1 hbn.2 a t with g | ⟨c,i,j,C,D,G⟩
   · omega
   · exact q c i j C D (G.trans d)
  ·rcases A.domle b o a with ⟨i,I⟩ | g
   ·rcases A.dom b e t with he' | g
    · exact q b i e I he' d
    · exact hbn g
   · exact hbn g
theorem Tx.wide {E:Em} {h:Hp} {w:World} {n n':Nat} (H:HR E h w) (d:n<=n'):Tx E h w n E h w n' []:=
 ⟨d,.refl E,fun _ _ h=>.inl h,H,fun _ _ _=>rfl,fun _ o h=>.inl ⟨o,h⟩,fun b o e _ _ a c=>.inr ⟨b,o,e,a,c,rfl⟩,fun _ _ _=>rfl,ql,rfl,rfl,rfl⟩
end Cx
namespace Cx
open Go
theorem intEq_eq {i j:Int} (h:intEq i j=true):i=j:=by
 unfold intEq at h;split at h
 · rw[Bs h]
 · rw[Bs h]
 · cases h
theorem Yy {a b:Option Addr} (h:addrEq a b=true):a=b:=by
 unfold addrEq at h;split at h
 · rfl
 ·rw[Bool.and_eq_true]at h
  rw[Bs h.1,Bs h.2]
 · cases h
theorem nameEq_eq {a b:Option Nat} (h:nameEq a b=true):a=b:=by
 unfold nameEq at h;split at h
 · rfl
 · rw[Bs h]
 · cases h
theorem boolEq_eq {a b:Bool} (h:boolEq a b=true):a=b:=by
 unfold boolEq at h;split at h <;> first | rfl | cases h
theorem bytes_eq {a b:ByteArray} (h:Gp a.data.toList b.data.toList=true):a=b:=by
 rw[Mf]at h;apply ByteArray.ext;apply Array.toList_inj.1;exact eq_of_beq h
theorem veq0_eq {x y:Value} (h:veq0 x y=true):x=y:=by
 unfold veq0 at h;split at h
 ·split at h
  · rw[Bool.and_eq_true]at h;rw[kind_eq h.1,intEq_eq h.2]
  · cases h
 ·split at h
  · rw[boolEq_eq h]
  · cases h
 ·split at h
  · rw[bytes_eq h]
  · cases h
 ·split at h
  · rw[Yy h]
  · cases h
 ·split at h
  · rw[Bool.and_eq_true,Bool.and_eq_true]at h;rw[Yy h.1,Bs h.2.1,Bs h.2.2]
  · cases h
 ·split at h
  · rw[nameEq_eq h]
  · cases h
 ·split at h
  · rfl
  · cases h
 ·split at h
  · rfl
  · cases h
 · cases h
theorem Ni {α:Type} {p:α->α->Bool} (a:∀x y,p x y=true->x=y):∀(l m:List α),all2 p l m=true->l=m
 | [],[],_=>rfl
 |x::r,y::q,h=>by
  simp only[all2,Bool.and_eq_true]at h;rw[a x y h.1,Ni a r q h.2]
 | [],_::_,h=>by cases h
 | _::_,[],h=>by cases h
theorem nest_eq {p:Value->Value->Bool} (a:∀x y,p x y=true->x=y) {x y:Value} (h:nest p x y=true):x=y:=by
 unfold nest at h;split at h
 ·split at h
  · rw[Array.toList_inj.1 (Ni a _ _ h)]
  · cases h
 ·split at h
  · rw[Array.toList_inj.1 (Ni a _ _ h)]
  · cases h
 ·split at h
  · rw[Bool.and_eq_true]at h;rw[Bs h.1,a _ _ h.2]
  · cases h
 · exact veq0_eq h
theorem Xr {x y:Value} (h:veq x y=true):x=y:=nest_eq (fun _ _ h=>nest_eq (fun _ _ h=>veq0_eq h) h) h
theorem entEq_eq {x y:MapEntry} (h:entEq x y=true):x=y:=by
 obtain⟨k,v,b⟩:=x;obtain⟨c,d,a⟩:=y;simp only[entEq,Bool.and_eq_true]at h;rw[Xr h.1,Xr h.2.1,Bs h.2.2]
theorem oeq_eq {x y:AObj} (h:oeq x y=true):x=y:=by
 unfold oeq at h;split at h
 ·split at h
  ·rw[Bool.and_eq_true,Bool.and_eq_true]at h
   rw[Ni (fun _ _ h=>Xr h) _ _ h.1,Bs h.2.1,Bs h.2.2]
  · cases h
 ·split at h
  ·rw[Bool.and_eq_true]at h
   rw[Ni (fun _ _ h=>entEq_eq h) _ _ h.1,Bs h.2]
  · cases h
def look:List (Nat×AObj)->Nat->Option AObj
 | [],_=>none
 | (c,o)::r,b=>if b=c then some o else look r b
theorem Lp:∀(l:List (Nat×AObj)) (t:Tr AObj) (b:Nat),(∀p∈l,p.1<=lim)->(Ja l t).get b=match look l b with | some o=>some o | none=>t.get b
 | [],t,b,_=>rfl
 |(c,o)::r,t,b,h=>by
  have hc:c<=lim:=h (c,o) (by simp);simp only[Ja,Gx,look];by_cases hb:b=c
  ·subst hb
   rw[if_pos rfl,Tr.Fp _ _ _ (by unfold deep;unfold lim at hc;omega)]
  ·rw[if_neg hb,Tr.Cw _ _ _ _ hb]
   exact Lp r t b fun p a=>h p (by simp[a])
theorem Kl:∀(l:List (Nat×AObj)) (b:Nat) (o:AObj),look l b=some o->(b,o)∈l
 | [],b,o,h=>by cases h
 |(c,u)::r,b,o,h=>by
  unfold look at h;split at h
  ·rename_i hb
   cases h
   subst hb;simp
  · exact List.mem_cons_of_mem _ (Kl r b o h)
theorem Os {s:HS}:∀(l:List (Nat×AObj)),Yz s l=true->∀p∈l,s.at p.1=some p.2
 | [],_,p,hp=>by cases hp
 |(b,o)::r,h,p,hp=>by
  unfold Yz at h;split at h
  ·rename_i o' ho
   split at h
   ·rename_i he
    rcases List.mem_cons.1 hp with rfl | hp
    · rw[ho,oeq_eq he]
    · exact Os r h p hp
   · cases h
  · cases h
def Known.out (x:Known):Hp:=fun b=>match look x.outH b with
 | some o=>some o
 | none=>look x.inH b
def KOk (P:Program) (V:List Nat) (x:Known):Prop:=∀(E:Em) (w:World) (args':Array Value),HR E (look x.inH) w->LR E x.args args'.toList->GL E ⟨V,[]⟩->Fresh E x.n0 x.n1->
 Calls P x.fn args' w fun e w'=>∃v' E',e=.returned v'/\VR E' x.v v'/\Tx E (look x.inH) w x.n0 E' x.out w' x.n1 []
def Back (E:Em) (s:HS) (w:World) (v:Value) (s':HS) (l:List Nat):Ending->World->Prop:=
 fun e w'=>∃v' E',e=.returned v'/\VR E' v v'/\Tx E s.at w s.next E' s'.at w' s'.next l
theorem Ma:∀(K:List Known) (g:Nat) (args:List Value) (s:HS) (v:Value) (b:HS),Rc K g args s=some (v,b)->
  ∃x∈K,g=x.fn/\s.next<=x.n0/\args=x.args/\Yz s x.inH=true/\x.n1<=lim/\(∀p∈x.outH,x.n0<=p.1/\p.1<x.n1)/\v=x.v/\b=⟨Ja x.outH s.heap,x.n1,s.log⟩
 | [],g,args,s,v,b,h=>by cases h
 |x::r,g,args,s,v,b,h=>by
  unfold Rc at h;split at h
  ·rename_i hc
   simp only[Bool.and_eq_true]at hc;obtain⟨h1,h2,h3,h4,h5,h6⟩:=hc;cases h
   refine⟨x,by simp,Bs h1,Cv h2,Ni (fun _ _ h=>Xr h) _ _ h3,h4,Cv h5,fun p c=>?_,rfl,rfl⟩;have:=List.all_eq_true.1 h6 p c;simp only[Bool.and_eq_true,Nat.blt_eq]at this;exact⟨Cv this.1,this.2⟩
  ·obtain⟨y,d,a⟩:=Ma r g args s v b h
   exact⟨y,by simp[d],a⟩
theorem applyK_keeps {K:List Known} {g:Nat} {args:List Value} {s a:HS} {v:Value} (e:∀x∈K,x.n0<=x.n1) (h:Rc K g args s=some (v,a)):Keeps s a []:=by
 obtain⟨x,j,_,l,_,_,m,c,_,rfl⟩:=Ma K g args s v a h;have:=e x j;refine⟨by show s.next<=x.n1;omega,rfl,fun b d _=>?_⟩;have d:b<s.next\/x.n1<=b:=d;unfold HS.at;show (Ja x.outH s.heap).get b=s.heap.get b;rw[Lp _ _ _ fun p i=>by have:=c p i;omega];cases hl:look x.outH b with
 | none=>rfl
 |some o=>
  have:=c _ (Kl _ _ _ hl);simp only at this;omega
theorem applyK_calls {P:Program} {G:Gl} (O:∀x∈G.known,KOk P G.vars x) {g:Nat} {args:List Value} {s j:HS} {v:Value} (h:Rc G.known g args s=some (v,j)) {l:List Nat} (R:j.log=l++s.log)
  {E:Em} {w:World} {a:Array Value} (H:HR E s.at w) (Q:LR E args a.toList) (L:GL E G) (F:Fresh E s.next j.next):Calls P g a w (Back E s w v j l):=by
 obtain⟨x,V,B,m,C,K,Y,u,D,I⟩:=Ma G.known g args s v j h;clear h;subst B C D I;have d:l= []:=by
  have J: []++s.log=l++s.log:=R;exact (List.append_cancel_right J).symm
 subst d;have F:Fresh E s.next x.n1:=F;have n:=Os _ K;have sub:∀b o,look x.inH b=some o->s.at b=some o:=fun b o c=>n (b,o) (Kl x.inH b o c);have r:Fresh E x.n0 x.n1:=fun b X m=>F b (by omega) m;refine Calls.mono (O x V E w a (H.sub sub) Q L r) ?_;rintro e w' ⟨W,z,rfl,U,T⟩;refine⟨W,z,rfl,U,?_⟩;have S:=T.le;have t:=T.lift H sub r (N:=List.range' x.n0 (x.n1-x.n0)) fun b=>by
  rw[List.mem_range'_1];constructor
  · intro h;exact .inl (by omega)
  ·rintro (h | h)
   · omega
   · cases h
 have q:patch (List.range' x.n0 (x.n1-x.n0)) x.out s.at=(⟨Ja x.outH s.heap,x.n1,s.log⟩:HS).at:=by
  funext b
  unfold HS.at;show _=(Ja x.outH s.heap).get b;rw[Lp _ _ _ fun p q=>by have:=u p q;omega];unfold patch Known.out;cases ho:look x.outH b with
  |some o=>
   have:=u _ (Kl _ _ _ ho);simp only at this;rw[if_pos (by rw[List.mem_range'_1];omega)]
  |none=>
   simp only;by_cases c:b∈List.range' x.n0 (x.n1-x.n0)
   ·rw[if_pos c]
    rw[List.mem_range'_1]at c;have M:E b=none:=F b (by omega) (by omega);have i:s.heap.get b=none:=by
     cases hs:s.heap.get b with
     | none=>rfl
     |some o=>
      obtain⟨e,y,_⟩:=H.here b o hs;rw[M]at y;cases y
    rw[i];cases hi:look x.inH b with
    | none=>rfl
    |some o=>
     have:=sub b o hi;unfold HS.at at this;rw[i]at this;cases this
   · rw[if_neg c]
 rw[q]at t;have A:=(Tx.wide (n':=x.n1) H (by omega)).within t m ql;exact A
end Cx
end Go.Proofs.YtjefcpjciogcjaaGreatDoor
