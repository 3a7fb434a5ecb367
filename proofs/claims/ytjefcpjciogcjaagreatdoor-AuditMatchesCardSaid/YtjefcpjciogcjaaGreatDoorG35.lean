/- Lemmas for the walk of the law, in 3 parts. No condition beyond what each states. -/
import Derived.Test.YtjefcpjciogcjaaGreatDoorG34
import Derived.Test.YtjefcpjciogcjaaGreatDoorG0
namespace Go.Proofs.YtjefcpjciogcjaaGreatDoor
set_option maxRecDepth 100000
set_option linter.unusedVariables false
namespace Cx
open Go
theorem HS.new_spec {s a:HS} {o:AObj} (h:s.new o=some a):a.at=upd s.at s.next (some o)/\a.next=s.next+1/\a.log=s.log:=by
 rw[HS.new_old]at h;split at h
 ·rename_i c
  cases h
  have d:s.next<=2^30:=by simpa [lim] using c
  refine⟨funext fun b=>?_,rfl,rfl⟩;unfold upd HS.at;by_cases hx:b=s.next
  · subst hx;simp only[if_true];exact Tr.Fp _ _ _ (by unfold deep;omega)
  · rw[if_neg hx];exact Tr.Cw _ _ _ _ hx
 · cases h
theorem HS.put_spec {s a:HS} {b:Nat} {o:AObj} (h:s.put b o=some a):a.at=upd s.at b (some o)/\a.next=s.next/\a.log=b::s.log:=by
 rw[HS.put_old]at h;split at h
 ·rename_i d
  cases h
  have e:b<=2^30:=by simpa [lim] using d
  refine⟨funext fun c=>?_,rfl,rfl⟩;unfold upd HS.at;by_cases hx:c=b
  · subst hx;simp only[if_true];exact Tr.Fp _ _ _ (by unfold deep;omega)
  · rw[if_neg hx];exact Tr.Cw _ _ _ _ hx
 · cases h
theorem HS.take_spec {s a:HS} {b:Nat} {o:AObj} (h:s.take b o=some a):a.at=upd (upd s.at b none) s.next (some o)/\a.next=s.next+1/\a.log=b::s.log:=by
 rw[HS.take_old]at h;split at h
 ·rename_i d g
  cases h
  have i:b<=2^30:=by simpa [lim] using d
  have e:s.next<=2^30:=by simpa [lim] using g
  refine⟨funext fun c=>?_,rfl,rfl⟩;unfold upd HS.at;by_cases hx:c=s.next
  · subst hx;simp only[if_true];exact Tr.Fp _ _ _ (by unfold deep;omega)
  ·rw[if_neg hx]
   show (Tr.set deep (Tr.set deep s.heap b none) s.next (some o)).get c=_;rw[Tr.Cw _ _ _ _ hx];by_cases hy:c=b
   · subst hy;simp only[if_true];exact Tr.Fp _ _ _ (by unfold deep;omega)
   · rw[if_neg hy];exact Tr.Cw _ _ _ _ hy
 · cases h
theorem HS.drop_spec {s a:HS} {b:Nat} (h:s.drop b=some a):a.at=upd s.at b none/\a.next=s.next/\a.log=b::s.log:=by
 rw[HS.drop_old]at h;split at h
 ·rename_i d
  cases h
  have e:b<=2^30:=by simpa [lim] using d
  refine⟨funext fun c=>?_,rfl,rfl⟩;unfold upd HS.at;by_cases hx:c=b
  · subst hx;simp only[if_true];exact Tr.Fp _ _ _ (by unfold deep;omega)
  · rw[if_neg hx];exact Tr.Cw _ _ _ _ hx
 · cases h
section
variable {P:Program} {E:Em} {w:World}
theorem HR.row {h:Hp} (H:HR E h w) {b:Nat} {cs:List Value} {t z:Nat} (j:h b=some (.row cs t z)):
  ∃e cur fz,E b=some e/\e.esz=z/\w.heap[e.blk]? =some (.cells cur t fz)/\cur.size=e.rows/\(fz.2=0\/cur.size<=fz.1)/\cs.length<=cur.size/\LR E cs (cur.toList.take cs.length):=by
 obtain⟨e,l,m,cur,fz,a,c,d,g,i⟩:=H.here b _ j;exact⟨e,cur,fz,l,m,a,c,d,g,i⟩
theorem Wf {α:Type} {l:List α} {n i:Nat} {x:α} (h:(l.take n)[i]? =some x):l[i]? =some x:=by
 rw[List.getElem?_take]at h;split at h
 · exact h
 · cases h
theorem Ft {cs xs:List Value} {o n:Nat} {cur:List Value} (h:Kx cs o n=some xs) (b:LR E cs (cur.take cs.length)):
  ∃ys,ys.length=n/\LR E xs ys/\∀j y,ys[j]? =some y->cur[o+j]? =some y:=by
 rw[Ky]at h;split at h
 ·rename_i c
  cases h
  refine⟨((cur.take cs.length).drop o).take n,?_,(b.drop o).take n,fun j y d=>?_⟩
  ·have:=((b.drop o).take n).length
   rw[<- this];simpa using c
  ·have a:=Wf d
   rw[List.getElem?_drop]at a;exact Wf a
 · cases h
theorem Rr {x:Value} {b o:Nat} (h:ptrA x=some (b,o)):x=.pointer (some ⟨b,o,none⟩):=by
 unfold ptrA at h;split at h
 · cases h;rfl
 · cases h
theorem Ir {b o n:Nat} {cur:Array Value} {t:Nat} {fz:Nat×Nat} (c:w.heap[b]? =some (.cells cur t fz)) {a:List Value} (e:a.length=n)
  (h:∀j y,a[j]? =some y->cur.toList[o+j]? =some y):(loadCells ⟨b,o,none⟩ n).run P w=.ok a.toArray w:=by
 subst e;refine run_loadCells_list (P:=P) w ⟨b,o,none⟩ a fun j v d=>?_;rw[Hc,cell_of_row w b (o+j) cur t fz c];simpa using h j v d
theorem Zy {s:HS} {t:Nat} {x m v:Value} (h:Zx P s t x=some v) (H:HR E s.at w) (J:VR E x m):∃v',VR E v v'/\(Instr.loadAt t m).run P w=.ok v' w:=by
 unfold Zx at h;split at h
 ·rename_i b o G
  obtain rfl:=Rr G;obtain⟨q,c,rfl⟩:=Fq J;split at h
  ·rename_i M N z B
   obtain⟨e,p,fz,C,_,j,_,_,_,l⟩:=H.row B;rw[C]at c;cases c;split at h
   ·rename_i n d D
    split at h
    ·rename_i O g
     cases h
     obtain⟨L,r,u,A⟩:=Ft g l;refine⟨.agg L.toArray,VR.agg' (by simpa using u),?_⟩;simp[Instr.loadAt,Instr.sureAddr,loadVar,Pl d,Cg D,Ir j r A]
    · cases h
   ·rename_i d
    rw[nth_eq]at h;obtain⟨y,K,I⟩:=l.at o v h;have i:=Wf K;refine⟨y,I,?_⟩;have a:w.cell? ⟨q.blk,o,none⟩=some y:=by rw[cell_of_row w _ _ _ _ _ j];simpa using i
    simp[Instr.loadAt,Instr.sureAddr,loadVar,Pl d,a]
   · cases h
  · cases h
 · cases h
theorem Xe {g:Nat} {cur cs:Array Value} {t:Nat} {fz:Nat×Nat} (b:w.heap[g]? =some (.cells cur t fz)):
  w.setRow g cs= {w with heap:=w.heap.setIfInBounds g (.cells cs t fz)}:=by
 unfold World.setRow
 congr 1
 apply Array.ext_getElem?;intro i;rw[Array.getElem?_modify,Array.getElem?_setIfInBounds];by_cases hi:g=i
 ·subst hi
  obtain⟨a,c⟩:=Array.getElem?_eq_some_iff.1 b;simp[a,c]
 · simp[hi]
theorem Wn {xs c:List Value} (h:LR E xs c) (e:xs.all (·.oneCell')=true):∀y∈c,y.oneCell'=true:=by
 intro y g;obtain⟨i,hi⟩:=List.getElem?_of_mem g;have a:i<xs.length:=by rw[h.length];exact (List.getElem?_eq_some_iff.1 hi).1
 obtain⟨j,b,d⟩:=h.at i xs[i] (List.getElem?_eq_getElem a);rw[hi]at b;cases b
 rw[d.one];exact List.all_eq_true.1 e _ (List.getElem_mem a)
theorem Ij {s n:HS} {b o:Nat} {p a:List Value} (h:Hv s b o p=some n) (H:HR E s.at w) (x:LR E p a) {e:Emb} (B:E b=some e):
  n.next=s.next/\n.log=b::s.log/\∃w',(storeCells ⟨e.blk,o,none⟩ a).run P w=.ok () w'/\Tx E s.at w s.next E n.at w' s.next [b]:=by
 unfold Hv at h;simp only[Ph,splice_eq]at h;split at h
 ·rename_i l
  split at h
  ·rename_i d Q z y
   split at h
   ·rename_i i
    obtain⟨J,L,M⟩:=HS.put_spec h;refine⟨L,M,?_⟩;obtain⟨S,c,fz,g,O,A,N,r,C,t⟩:=H.row y;rw[B]at g;cases g;have j:=x.length;have i:o+p.length<=d.length:=by simpa using i
    have hr:=Own.Ep P e.blk o Q fz a 0 c w A (by simp only[Nat.add_zero];omega) (by simp only[Nat.add_zero];omega) (Wn x l);simp only[Nat.add_zero]at hr;rw[Xe A]at hr;refine⟨_,hr,?_⟩;rw[J];refine Tx.put H B y ⟨O,_,fz,rfl,?_,?_,?_,?_⟩
    · simp;omega
    ·rcases r with h | h
     · exact .inl h
     · right;simp;omega
    · simp[splice];omega
    ·have u:(splice d o p).length=d.length:=by simp[splice];omega
     rw[u];have m:c.toList=c.toList.take d.length++c.toList.drop d.length:=(List.take_append_drop _ _).symm;have q:(c.toList.take d.length).length=d.length:=by simp;omega
     generalize c.toList.take d.length=K at m q t;generalize c.toList.drop d.length=R at m;have D:c.toList.take o=K.take o:=by rw[m,List.take_append_of_le_length (by omega)]
     have G:c.toList.drop (o+a.length)=K.drop (o+a.length)++R:=by rw[m,List.drop_append_of_le_length (by omega)]
     rw[D,G];have I:(K.take o++a++(K.drop (o+a.length)++R)).toArray.toList.take d.length=K.take o++(a++K.drop (o+a.length)):=by
      have:K.take o++a++(K.drop (o+a.length)++R)=(K.take o++(a++K.drop (o+a.length)))++R:=by simp[List.append_assoc]
      rw[List.toList_toArray,this,List.take_append_of_le_length (by simp;omega),List.take_of_length_le (by simp;omega)]
     rw[I];unfold splice;rw[j];exact (t.take o).append (x.append (t.drop _))
   · cases h
  · cases h
 · cases h
theorem storeA_run {s a:HS} {t:Nat} {x g v c:Value} (h:Xi P s t x v=some a) (H:HR E s.at w) (z:VR E x g) (d:VR E v c):
  a.next=s.next/\∃b,a.log=b::s.log/\∃w',(Instr.storeAt t g c).run P w=.ok () w'/\Tx E s.at w s.next E a.at w' s.next [b]:=by
 unfold Xi at h;split at h
 ·rename_i b o n u r
  obtain rfl:=Rr u;obtain⟨e,q,rfl⟩:=Fq z;split at h
  ·rename_i p
   obtain⟨i,j,w',l,m⟩:=Ij (P:=P) h H d.cells q;refine⟨i,b,j,w',?_,m⟩;have y:c.cells.size=n:=by
    have:=d.cells.length;simp only[Array.length_toList]at this;rw[<- this];simpa using p
   simp[Instr.storeAt,Instr.sureAddr,storeVar,Cg r,y,l]
  · cases h
 · cases h
theorem new_row {s a:HS} {t z:Nat} {cs:List Value} {cur:Array Value} (h:s.new (.row cs t z)=some a) (H:HR E s.at w) (e:E s.next=none) (g:cs.length<=cur.size) (hr:LR E cs (cur.toList.take cs.length)) (fz:Nat×Nat)
  (i:fz.2=0\/cur.size<=fz.1):
  a.next=s.next+1/\a.log=s.log/\Tx E s.at w s.next (updE E s.next ⟨w.heap.size,cur.size,z⟩) a.at {w with heap:=w.heap.push (.cells cur t fz)} (s.next+1) []:=by
 obtain⟨b,c,d⟩:=HS.new_spec h;refine⟨c,d,?_⟩;rw[b];exact Tx.new H e rfl ⟨rfl,cur,fz,rfl,rfl,i,g,hr⟩
theorem Rz {xs a:List Value} (h:LR E xs a):LR E xs (a.take xs.length):=by
 rw[List.take_of_length_le (by rw[h.length];exact ql)];exact h
theorem Iz (e:TypeId) (cur:Array Value):(newRow e cur).run P w=.ok ⟨w.heap.size,0,none⟩ {w with heap:=w.heap.push (.cells cur e)}:=rfl
theorem Th {s b:HS} {t:Nat} {v a r:Value} (h:Jp s t v=some (r,b)) (H:HR E s.at w) (i:E s.next=none) (l:VR E v a):
  b.next=s.next+1/\b.log=s.log/\∃E' r' w',(newVar t a).run P w=.ok r' w'/\VR E' r (.pointer (some r'))/\Tx E s.at w s.next E' b.at w' (s.next+1) []:=by
 unfold Jp at h;split at h
 ·rename_i m j
  cases h
  have c:=l.cells;obtain⟨d,e,g⟩:=new_row (w:=w) (cur:=a.cells) j H i (by have:=c.length;simp at this ⊢;omega) (Rz c) (0,0) (.inl rfl);refine⟨d,e,_,_,_,Iz t a.cells,?_,g⟩;exact VR.ptr s.next 0 ⟨w.heap.size,a.cells.size,0⟩ (by simp[updE])
 · cases h
theorem Kt {t:Nat} {z:Value} (h:Lz P t=some z):(∀w,(zeroValue t).run P w=.ok z w)/\bare z=true/\∃i,P.info? t=some i/\z.cells.size=i.size:=by
 unfold Lz at h;split at h
 ·rename_i i hi
  split at h
  ·rename_i d c
   split at h
   ·rename_i a
    split at h
    ·rename_i b
     cases h
     exact⟨fun w=>by simp[zeroValue,typeInfo,hi,c],a,i,hi,by simpa using b⟩
    · cases h
   · cases h
  · cases h
 · cases h
end
end Cx
namespace Cx
open Go
section
variable {P:Program} {E:Em} {w:World}
theorem Cv {a b:Nat} (h:Nat.ble a b=true):a<=b:=Nat.le_of_ble_eq_true h
theorem Bs {a b:Nat} (h:Nat.beq a b=true):a=b:=Nat.eq_of_beq_eq_true h
theorem Mc {a b:Nat} (h:Nat.beq a b=false):a≠b:=fun e=>by rw[Iv e]at h;cases h
theorem ble_gt {a b:Nat} (h:Nat.ble a b=false):b<a:=by
 rcases Nat.lt_or_ge b a with c | c
 · exact c
 · rw[Nat.ble_eq_true_of_le c]at h;cases h
theorem Kd {t e n c' l h m z:Nat} {a:Option Addr} {lo hi mx:Option Value} (c:P.underlying t=some (.slice e)) (d:Fa P e=some z)
  (b:(Instr.sliceBounds true n c' lo hi mx).run P w=.ok (l,h,m) w):
  (Instr.sliceAt t (.slice a n c') lo hi mx).run P w=.ok (.slice (if m=l then a else a.map (·.add (l*z))) (h-l) (m-l)) w:=by
 simp[Instr.sliceAt,Instr.slice,run_underlying c,b,Cg d]
theorem sliceA_run {s:HS} {t:Nat} {x x' v:Value} {lo hi mx C A I:Option Value} (h:sliceA P s t x lo hi mx=some v) (H:HR E s.at w) (hx:VR E x x')
  (q:OV E lo C) (p:OV E hi A) (L:OV E mx I):∃v',VR E v v'/\(Instr.sliceAt t x' C A I).run P w=.ok v' w:=by
 unfold sliceA at h;split at h
 ·rename_i el b o n c hu
  split at h
  ·rename_i b1 rt Q M
   split at h
   ·rename_i z hz
    split at h
    ·rename_i N
     obtain⟨e,a5,fz,O,y,a3,a1,_,_,_⟩:=H.row M;obtain⟨e',D,J,rfl,W,b0,K,a2⟩:=Hj hx;rw[O]at J;cases J;have N:Q=z\/Q=0:=by
       simp only[Bool.or_eq_true]at N;exact N.imp Bs Bs
     have b2:topOf c n<=D:=by
       unfold topOf;split
       · exact b0
       · rename_i R
         have:=Mc R;rcases W with g | g
         · omega
         · exact absurd g.1 this
     have r:∀k,k<=D->k<unk:=fun k hk=>Nat.lt_of_le_of_lt hk a2;have fit:∀l m,l<=m->m<=D->e.esz=0\/o+l*z+(m-l)*e.esz<=e.rows:=by
       intro l m g d;rcases K with G | G
       · exact .inl G
       · rcases N with V | V
         · right
           subst V;rw[y]at G ⊢;have e1:l*Q+(m-l)*Q=m*Q:=by rw[<- Nat.add_mul];congr 1;omega
           have e2:m*Q<=D*Q:=Nat.mul_le_mul_right _ d;omega
         · exact .inl (y.trans V)
     split at h
     · cases I with
       | some _=>exact L.elim
       | none=>
       split at h
       · rename_i u i
         split at h
         · rename_i l j
           have b5:u<=D:=by
            rcases Be i p with ⟨_,_,d⟩ | ⟨k,_,d⟩ <;> omega
           have a4:l<=u:=by
            rcases Be j q with ⟨_,_,d⟩ | ⟨k,_,d⟩ <;> omega
           have R:=Io (P:=P) (isS:=true) (len:=n) (cap:=D) (lo:=C) (hi:=A) (mx:=none) (l:=l) (h:=u) (m:=D) (.inl ⟨rfl,rfl⟩)
            (by rcases Be i p with ⟨g,_,d⟩ | ⟨k,g,d⟩
                · exact .inl ⟨g,rfl,d⟩
                · exact .inr ⟨k,g,by omega⟩)
            (by rcases Be j q with ⟨g,_,d⟩ | ⟨k,g,d⟩
                · exact .inl ⟨g,d⟩
                · exact .inr ⟨k,g,d⟩) w
           have hr:=Kd (a:=some ⟨e.blk,o,none⟩) hu hz R;split at h
           ·rename_i S
            split at h
            · rename_i Y
              cases h
              have Y:l<n\/l=0:=by
                rw[Bool.or_eq_true]at Y;exact Y.imp (fun h=>by simpa [Nat.blt_eq] using h) Bs
              refine⟨_,?_,hr⟩;have a7:(if D=l then (some ⟨e.blk,o,none⟩:Option Addr) else (some ⟨e.blk,o,none⟩:Option Addr).map (·.add (l*z)))=some ⟨e.blk,o+l*z,none⟩:=by
                split
                · have:l=0:=by omega
                  subst this;simp
                · simp only[Option.map_some,Hc]
              rw[a7];refine VR.slice b _ _ _ _ e O (.inr ⟨rfl,?_⟩) (by omega) (fit l D (by omega) ql) (r _ (Nat.sub_le _ _));have b3:=Bs S;rcases W with g | g
              · omega
              · rcases g.2 with G | G
                · exact .inl G
                · rcases N with V | V
                  ·right
                   subst V;rw[y]at G ⊢;have e1:l*Q+(D-l)*Q=D*Q:=by rw[<- Nat.add_mul];congr 1;omega
                   omega
                  · exact .inl (y.trans V)
            · rename_i T
              cases h
              have T:n<=l:=by
                rw[Bool.or_eq_false_iff]at T;rcases Nat.lt_or_ge l n with g | g
                · rw[show Nat.blt l n=true from by simpa [Nat.blt_eq] using g]at T;cases T.1
                · exact g
              have b7:topOf c n=n:=by
                unfold topOf;rw[S]
              have a8:u<=n:=by
                rcases Be i p with ⟨_,_,d⟩ | ⟨k,_,d⟩ <;> omega
              have U:u-l=0:=by omega
              refine⟨_,?_,hr⟩;rw[U];split
              · exact VR.slice00 _ _ _
              · simp only[Option.map_some,Hc]
                exact VR.slice00 _ _ _
           ·rename_i S
            have a6:c=D:=W.resolve_right fun h=>Mc S h.1;subst a6;split at h
            · rename_i X
              cases h
              have:=Bs X;refine⟨_,?_,hr⟩;rw[if_pos this];have U:c-l=0:=by omega
              rw[U]
              exact VR.slice b _ _ _ _ e O (.inl rfl) (by omega) (by rcases K with G | G
                                                                     · exact .inl G
                                                                     · right;omega) (r _ (Nat.zero_le _))
            · rename_i X
              cases h
              have:=Mc X;refine⟨_,?_,hr⟩;rw[if_neg this];simp only[Option.map_some,Hc];exact VR.slice b _ _ _ _ e O (.inl rfl) (by omega) (fit l c (by omega) ql) (r _ (Nat.sub_le _ _))
         · cases h
       · cases h
     · rename_i k mi
       cases I with
       | none=>exact L.elim
       | some mv=>
       obtain rfl:=Eh L;split at h
       · rename_i m hv a9
         obtain⟨rfl,b6⟩:=Il a9;split at h
         · rename_i u i
           split at h
           ·rename_i l j
            have b4:u<=m:=by
              rcases Be i p with ⟨_,d,_⟩ | ⟨k,_,d⟩
              · cases d
              · exact d
            have a4:l<=u:=by
              rcases Be j q with ⟨_,_,d⟩ | ⟨k,_,d⟩ <;> omega
            have R:=Io (P:=P) (isS:=true) (len:=n) (cap:=D) (lo:=C) (hi:=A) (mx:=some (.int k (m:Int))) (l:=l) (h:=u) (m:=m) (.inr ⟨k,rfl,by omega⟩)
              (by rcases Be i p with ⟨_,d,_⟩ | ⟨k,g,d⟩
                  · cases d
                  · exact .inr ⟨k,g,by omega⟩)
              (by rcases Be j q with ⟨g,_,d⟩ | ⟨k,g,d⟩
                  · exact .inl ⟨g,d⟩
                  · exact .inr ⟨k,g,d⟩) w
            have hr:=Kd (a:=some ⟨e.blk,o,none⟩) hu hz R;split at h
            · rename_i a0
              cases h
              have:=Bs a0;refine⟨_,?_,hr⟩;rw[if_pos this];have U:m-l=0:=by omega
              rw[U];refine VR.slice b _ _ _ _ e O (.inl rfl) (by omega) ?_ (r _ (Nat.zero_le _));rcases K with G | G
              · exact .inl G
              · right;omega
            · rename_i a0
              cases h
              have:=Mc a0;refine⟨_,?_,hr⟩;rw[if_neg this];simp only[Option.map_some,Hc];exact VR.slice b _ _ _ _ e O (.inl rfl) (by omega) (fit l m (by omega) (by omega)) (r _ (by omega))
           · cases h
         · cases h
       · cases h
     · cases h
    · cases h
   · cases h
  · cases h
 ·rename_i el hu
  obtain rfl:=Jb hx;split at h
  ·rename_i z hz
   cases I with
   | some _=>exact L.elim
   | none=>
   split at h
   ·rename_i u l i j
    cases h
    have h0:u=0:=by rcases Be i p with ⟨_,_,d⟩ | ⟨k,_,d⟩ <;> omega
    have l0:l=0:=by rcases Be j q with ⟨_,_,d⟩ | ⟨k,_,d⟩ <;> omega
    subst h0;subst l0;have R:=Io (P:=P) (isS:=true) (len:=0) (cap:=0) (lo:=C) (hi:=A) (mx:=none) (l:=0) (h:=0) (m:=0) (.inl ⟨rfl,rfl⟩)
     (by rcases Be i p with ⟨g,_,d⟩ | ⟨k,g,d⟩
         · exact .inl ⟨g,rfl,rfl⟩
         · exact .inr ⟨k,g,by omega⟩)
     (by rcases Be j q with ⟨g,_,d⟩ | ⟨k,g,d⟩
         · exact .inl ⟨g,rfl⟩
         · exact .inr ⟨k,g,d⟩) w
    exact⟨_,.slice0 0 0,Kd hu hz R⟩
   · cases h
  · cases h
 ·rename_i n el b o hu
  split at h
  ·rename_i b1 rt z M hz B
   have B:=Cv B;have r:∀k,k<=n->k<unk:=fun k hk=>by unfold unk;unfold lim at B;omega
   obtain⟨e,a5,fz,O,y,a3,a1,_,_,_⟩:=H.row M;obtain⟨e',J,rfl⟩:=Fq hx;rw[O]at J;cases J;cases I with
   | some _=>exact L.elim
   | none=>
   split at h
   ·rename_i u i
    split at h
    ·rename_i l j
     have a8:u<=n:=by rcases Be i p with ⟨_,_,d⟩ | ⟨k,_,d⟩ <;> omega
     have a4:l<=u:=by rcases Be j q with ⟨_,_,d⟩ | ⟨k,_,d⟩ <;> omega
     have R:=Io (P:=P) (isS:=false) (len:=n) (cap:=n) (lo:=C) (hi:=A) (mx:=none) (l:=l) (h:=u) (m:=n) (.inl ⟨rfl,rfl⟩)
       (by rcases Be i p with ⟨g,_,d⟩ | ⟨k,g,d⟩
           · exact .inl ⟨g,rfl,d⟩
           · exact .inr ⟨k,g,by omega⟩)
       (by rcases Be j q with ⟨g,_,d⟩ | ⟨k,g,d⟩
           · exact .inl ⟨g,d⟩
           · exact .inr ⟨k,g,d⟩) w
     have hr:(Instr.sliceAt t (.pointer (some ⟨e.blk,o,none⟩)) C A none).run P w=.ok (.slice (some (if n=l then (⟨e.blk,o,none⟩:Addr) else (⟨e.blk,o,none⟩:Addr).add (l*z))) (u-l) (n-l)) w:=by
       simp[Instr.sliceAt,Instr.sureAddr,run_underlying hu,R,Cg hz]
     refine⟨_,?_,hr⟩;split at h
     · rename_i B
       cases h
       have:=Bs B;rw[if_pos this];have U:n-l=0:=by omega
       rw[U];exact VR.slice b _ _ _ _ e O (.inl rfl) (by omega) (.inl y) (r _ (Nat.zero_le _))
     · rename_i B
       cases h
       have:=Mc B;rw[if_neg this,Hc];exact VR.slice b _ _ _ _ e O (.inl rfl) (by omega) (.inl y) (r _ (Nat.sub_le _ _))
    · cases h
   · cases h
  · cases h
 · cases h
theorem Gm {xs:List Value} (h:xs.all Fz=true):LR E xs xs:=LR.self fun x hx=>Hd x (List.all_eq_true.1 h x hx)
theorem Ya {z:Array Value} {n:Nat} (c:0<z.size) (h:z.toList.all Fz=true):(zeros z n).toList.all Fz=true:=by
 rw[List.all_eq_true]at h ⊢;intro x b;simp only[zeros,Array.toList_map,List.mem_map]at b;obtain⟨i,_,rfl⟩:=b;refine h _ ?_;have a:i%z.size<z.size:=Nat.mod_lt _ c;simp[getElem!_pos z (i%z.size) a]
theorem Pk (z:Array Value) (n:Nat):(zeros z n).size=n:=by simp[zeros]
theorem Gf {s d:HS} {el z len cap:Nat} {cs:List Value} {cur:Array Value} {r:Value} (h:Cc s el z cs len cap=some (r,d)) (H:HR E s.at w) (l:E s.next=none)
  (m:cs.length<=cur.size) (hr:LR E cs (cur.toList.take cs.length)) (fz:Nat×Nat) (o:fz.2=0\/cur.size<=fz.1) {cap':Nat} (a:cap=cap'\/(cap=unk/\cap'*z=cur.size)) (c:len<=cap') (b:cap'*z<=cur.size) (e:cap'<unk):
  d.next=s.next+1/\d.log=s.log/\∃E',VR E' r (.slice (some ⟨w.heap.size,0,none⟩) len cap')/\Tx E s.at w s.next E' d.at {w with heap:=w.heap.push (.cells cur el fz)} (s.next+1) []:=by
 unfold Cc at h;split at h
 ·rename_i p n
  cases h
  obtain⟨g,i,j⟩:=new_row n H l m hr fz o;refine⟨g,i,_,?_,j⟩;exact VR.slice s.next 0 len cap cap' ⟨w.heap.size,cur.size,z⟩ (by simp[updE]) (a.imp_right fun h=>⟨h.1,.inr (by simpa using h.2)⟩) c (.inr (by simpa using b)) e
 · cases h
theorem Ub {s D:HS} {t len:Nat} {e d:Array (Nat×Value)} {r:Value} (h:Co P s t len e=some (r,D)) (H:HR E s.at w) (U:E s.next=none)
  (B:PL E e.toList d.toList):
  D.next=s.next+1/\D.log=s.log/\∃E' r' w',(Instr.buildSlice t len d).run P w=.ok r' w'/\VR E' r r'/\Tx E s.at w s.next E' D.at w' (s.next+1) []:=by
 unfold Co at h;split at h
 ·rename_i el V
  split at h
  ·rename_i j W A T
   obtain⟨S,Y,i,hi,a1⟩:=Kt T;have a0:i.size=j+1:=by
    unfold Fa at A;rw[hi]at A;exact Option.some.inj A
   split at h
   ·rename_i g
    simp only[Bool.and_eq_true]at g;obtain⟨m,q⟩:=g;have m:=Cv m;split at h
    ·split at h
     ·rename_i y
      have N:d.toList= []:=by
       rw[y]at B;cases hq:d.toList with
       | nil=>rfl
       | cons a b=>rw[hq]at B;exact B.elim
      obtain⟨I,J,E',K,L⟩:=Gf (cur:=#[]) (fz:=(0,0)) (cap':=0) h H U (by simp) trivial (.inl rfl) (.inl rfl) ql (by simp) (by unfold unk;omega);refine⟨I,J,E',_,_,?_,K,L⟩;have O:Array.range 0=#[]:=rfl;simp[Instr.buildSlice,run_underlying V,Cg A,N,Instr.fill,newRow,newObj,Sem.run,O]
     · cases h
    ·rename_i l1 _
     have m:(l1+1)*(j+1)<=10000:=m;have M:¬((l1+1)*(j+1)=0):=by simp
     have n:¬((l1+1)*(j+1)>2^24):=by omega
     split at h
     ·rename_i G u
      obtain⟨r',o,X⟩:=Py e.toList d.toList (zeros W.cells ((l1+1)*(j+1))) (zeros W.cells ((l1+1)*(j+1))) G B
       (Gm (Ya (by omega) q)) u
      have z:∀(C:List (Nat×Value)) (c r:Array Value),Instr.fill (fun i=>some (i*(j+1),j+1)) c C=some r->r.size=c.size:=by
       intro C
       induction C with
       | nil=>intro c r h;simp only[Instr.fill,Option.some.injEq]at h;rw[h]
       |cons p C ih=>
        intro c r h;obtain⟨i,v⟩:=p;simp only[Instr.fill]at h;split at h
        · cases h
        ·rw[ih _ _ h,<-Array.foldl_toList]
         have:∀(l:List (Value×Nat)) (c:Array Value),(l.foldl (fun G x=>G.setIfInBounds (i*(j+1)+x.2) x.1) c).size=c.size:=by
          intro l
          induction l with
          | nil=>intro c;rfl
          | cons x l ih=>intro c;rw[List.foldl_cons,ih];simp
         exact this _ _
      have Q:=z _ _ _ u;have R:=z _ _ _ o;rw[Pk]at Q R;obtain⟨I,J,E',K,L⟩:=Gf (cur:=r') (fz:=(0,0)) (cap':=l1+1) h H U (by simp;omega) (Rz X) (.inl rfl) (.inl rfl) (by omega) (by omega) (by
       have h7:l1+1<=(l1+1)*(j+1):=Nat.le_mul_of_pos_right _ (Nat.succ_pos _);unfold unk;omega)
      refine⟨I,J,E',_,_,?_,K,L⟩;simp only[zeros]at o;simp only[Instr.buildSlice,Sem.run_bind,run_underlying V,Result.andThen_ok,Cg A,n,if_false,M,S,Sem.run_pure,o,Iz]
     · cases h
   · cases h
  · cases h
 · cases h
theorem Zm:∀(a:List Value) (n:Nat) (c:Array Value),n+a.length=c.size->((a.zipIdx n).foldl (fun cs (x,j)=>cs.setIfInBounds (0+j) x) c).toList=c.toList.take n++a
 | [],n,c,h=>by
   simp only[List.length_nil,Nat.add_zero]at h;simp only[List.zipIdx_nil,List.foldl_nil,List.append_nil];rw[List.take_of_length_le (by simp;omega)]
 | v::a,n,c,h=>by
   simp only[List.length_cons]at h;simp only[List.zipIdx_cons,List.foldl_cons,Nat.zero_add];have:=Zm a (n+1) (c.setIfInBounds n v) (by simp;omega);simp only[Nat.zero_add]at this;rw[this,Array.toList_setIfInBounds,List.take_add_one,List.getElem?_set_self (by simp;omega),List.take_set_of_le (Nat.le_refl n)];simp
theorem fill_one {z:Nat} {c:Array Value} {v:Value} (d:c.size=z+1) (h:v.cells.size=z+1):Instr.fill (fun i=>some (i*(z+1),z+1)) c [(0,v)]=some v.cells:=by
 have g:=Zm v.cells.toList 0 c (by simp;omega);have e:∀(a c:Array Value),a.zipIdx.foldl (fun b (x,j)=>b.setIfInBounds (0*(z+1)+j) x) c=(a.toList.zipIdx 0).foldl (fun b (x,j)=>b.setIfInBounds (0+j) x) c:=by
  intro a c;rw[<- Array.foldl_toList,Array.toList_zipIdx];simp only[Nat.zero_mul]
 simp only[Instr.fill];rw[if_neg (by simp[h,d]),e]
 congr 1
 apply Array.toList_inj.1;rw[g];simp
theorem buildOne_old {P:Program} {s:HS} {t:Nat} {v:Value} {r:Value×HS} (h:Vg P s t v=some r):Co P s t 1 #[(0,v)]=some r:=by
 unfold Vg at h;unfold Co;split at h <;> first | (cases h;done) | skip
 rename_i e g;split at h <;> first | (cases h;done) | skip
 rename_i z c j b;split at h <;> first | (cases h;done) | skip
 rename_i d;split at h <;> first | (cases h;done) | skip
 rename_i a;rw[Mp]at a;have a:=Bs a;show (match Instr.fill (fun i=>some (i*(z+1),z+1)) (zeros c.cells ((0+1)*(z+1))) [(0,v)] with
  | some cs=>Cc s e (z+1) cs.toList (0+1) (0+1)
  | none=>none)=some r
 rw[fill_one (by rw[Pk];simp) (by simpa using a.symm)];exact h
theorem Ls {P:Program} {s:HS} {t len:Nat} {a:List (Nat×Value)} {r:Value×HS} (h:Me P s t len a=some r):Co P s t len a.toArray=some r:=by
 unfold Me at h;split at h
 ·split at h
  ·split at h
   ·rename_i c b
    cases h
    exact buildOne_old b
   · exact h
  · exact h
 · exact h
theorem To (n:Nat):(askRoom n).run P w=.ok () w:=by
 unfold askRoom;split <;> rfl
theorem Wp {s q:HS} {t:Nat} {l N c c' r:Value} (h:Hh P s t l c=some (r,q)) (H:HR E s.at w) (S:E s.next=none) (T:VR E l N) (R:VR E c c'):
  q.next=s.next+1/\q.log=s.log/\∃E' r' w',(Instr.makeSlice t N c').run P w=.ok r' w'/\VR E' r r'/\Tx E s.at w s.next E' q.at w' (s.next+1) []:=by
 unfold Hh at h;split at h
 ·rename_i el U
  split at h
  ·rename_i k1 li k2 ci
   obtain rfl:=Eh T;obtain rfl:=Eh R;split at h
   ·rename_i K b B y
    obtain⟨rfl,A⟩:=Il B;obtain⟨rfl,j⟩:=Il y;split at h
    ·rename_i i p hi J
     obtain⟨I,W,i',m,Y⟩:=Kt J;rw[hi]at m;cases m;split at h
     ·rename_i z V
      split at h
      ·rename_i a
       simp only[Bool.and_eq_true]at a;obtain⟨e,d,g⟩:=a;have e:=Cv e;have d:=Cv d;have X:p.cells.size=z+1:=by omega
       have G:(zeros p.cells (b*(z+1))).size=b*(z+1):=Pk _ _;have x:LR E (zeros p.cells (b*(z+1))).toList (zeros p.cells (b*(z+1))).toList:=Gm (Ya (by omega) g);obtain⟨O,L,E',u,Q⟩:=Gf (cur:=zeros p.cells (b*(z+1))) (fz:=(0,0)) (cap':=b) h H S (by simp) (Rz x) (.inl rfl) (.inl rfl) e (by rw[G];exact ql) (by unfold unk;omega);refine⟨O,L,E',_,_,?_,u,Q⟩;have M:∀n:Nat,n<=100000->IntKind.i64.wrap (n:Int)=(n:Int):=fun n hn=>Base.Pj n (by omega);have L:i.bytes*b<=100000*100000:=Nat.mul_le_mul d j;have u:(i.bytes:Int)*(b:Int)=((i.bytes*b:Nat):Int):=by simp
       have a:((((decide ((b:Int)<0))||decide ((i.bytes:Int)*(b:Int)>2^48))||decide ((K:Int)<0))||decide ((K:Int)>(b:Int)))=false:=by
        simp only[Bool.or_eq_false_iff,decide_eq_false_iff_not];rw[u];refine⟨⟨⟨?_,?_⟩,?_⟩,?_⟩ <;> omega
       have o:∀w,(typeInfo el).run P w=.ok i w:=fun w=>by simp[typeInfo,hi]
       have D:∀w,(sizeOf el).run P w=.ok (z+1) w:=fun w=>by simp[sizeOf,o,V]
       simp only[Instr.makeSlice,asInt,asIntOf,Sem.run_bind,run_underlying U,Result.andThen_ok,Sem.run_pure,o,M K A,M b j,a,Bool.false_eq_true,if_false,To,D,Int.toNat_natCast];by_cases hcz:b*(z+1)=0
       ·have C:Array.range 0=#[]:=rfl
        simp only[hcz,if_true,Sem.run_pure,C,zeros,Array.map_empty,Sem.run_bind,Result.andThen_ok,Iz]
       ·simp only[hcz,if_false,Sem.run_bind,I,Result.andThen_ok,Sem.run_pure,Iz]
        rfl
      · cases h
     · cases h
    · cases h
   · cases h
  · cases h
 · cases h
end
end Cx
namespace Cx
open Go
theorem Tx.drop {E:Em} {h:Hp} {w:World} {n b:Nat} (H:HR E h w):Tx E h w n E (upd h b none) w n [b]:=by
 have d:∀c o,upd h b none c=some o->h c=some o:=by
  intro c o a;unfold upd at a;split at a
  · cases a
  · exact a
 refine⟨Nat.le_refl n,.refl E,fun _ _ h=>.inl h,H.sub d,?_,fun c o a=>.inl ⟨o,d c o a⟩,fun _ _ _ e g=>absurd (Nat.lt_of_le_of_lt e g) (Nat.lt_irrefl _),fun _ _ _=>rfl,ql,rfl,rfl,rfl⟩;intro c _ a;unfold upd;rw[if_neg (by simpa using a)]
section
variable {P:Program} {E:Em} {w:World}
theorem lenA_run {y b:Value} {n:Nat} (h:lenA y=some n) (a:VR E y b) (w:World):(Builtin.lenOf b).run P w=.ok n w:=by
 unfold lenA at h;split at h
 ·cases h
  cases a <;> rfl
 ·cases h
  obtain rfl:=Eo a;rfl
 · cases h
theorem Oo {s:HS} {z n:Nat} {y i:Value} {new:List Value} (h:Ju s z n y=some new) (H:HR E s.at w) (d:VR E y i):
  ∃new',LR E new new'/\∀w':World,w'.heap=w.heap->(Builtin.firstCells z n i).run P w'=.ok new'.toArray w':=by
 unfold Ju at h;split at h
 ·obtain rfl:=Jb d
  split at h
  · cases h;exact⟨[],trivial,fun w' _=>by simp[Builtin.firstCells]⟩
  · cases h
 ·rename_i b o l c
  split at h
  ·rename_i L t1 N u
   obtain⟨e,m,fz,B,_,A,_,_,_,D⟩:=H.row u;obtain⟨M,K,a,rfl,_⟩:=Hj d;rw[B]at a;cases a;obtain⟨J,p,q,r⟩:=Ft h D;refine⟨J,q,fun w' G=>?_⟩;have:=Ir (P:=P) (w:=w') (b:=e.blk) (o:=o) (n:=n*z) (by rw[G];exact A) p r;simp[Builtin.firstCells,this]
  · cases h
 ·split at h
  ·cases h
   cases d
   rename_i b o c;refine⟨[],trivial,fun w' _=>?_⟩;have g:=run_loadCells_list (P:=P) w' ⟨b,o,none⟩ [] (fun j v C=>by simp at C);simp only[List.length_nil]at g;simp[Builtin.firstCells,g]
  · cases h
 ·rename_i t
  split at h
  ·cases h
   obtain rfl:=Eo d;refine⟨_,Gm ?_,fun w' _=>?_⟩
   ·rw[List.all_eq_true]
    intro x I;obtain⟨b,_,rfl⟩:=List.mem_map.1 I;rfl
   ·simp only[Builtin.firstCells,Sem.run_pure]
    congr 1
    apply Array.toList_inj.1;simp[Nd]
  · cases h
 · cases h
theorem Ti {d:TypeDesc} (h:notInt d=true):d=.string\/∃e,d=.slice e:=by
 cases d <;> first | exact .inl rfl | exact .inr ⟨_,rfl⟩ | cases h
theorem Hq {t u ty e n l c' z:Nat} {h:TypeDesc} {i:TypeInfo} {base:Option Addr} {g:Value} {news:Array Value} (m:P.underlying t=some (.slice e)) (o:P.underlying u=some h) (j:notInt h=true)
  (hi:P.info? e=some i) (p:i.size=z) (c:(Builtin.lenOf g).run P w=.ok n w) (d:(Builtin.firstCells z n g).run P w=.ok news w) (b:l+n<=c'):
  (Builtin.append_ #[t,u] ty #[.slice base l c',g]).run P w=match base with
    | some a=>((storeCells (a.add (l*z)) news.toList).run P w).andThen fun _ w'=>.ok (.slice (some a) (l+n) c') w'
    | none=>.ok (.slice none (l+n) c') w:=by
 subst p;rcases Ti j with rfl | ⟨_,rfl⟩ <;> cases base <;> simp[Builtin.append_,run_underlying m,run_underlying o,sizeOf,typeInfo,hi,c,d,b]
theorem append_grow {t u ty e n l c' z:Nat} {B:TypeDesc} {i:TypeInfo} {A:Value} {base:Option Addr} {y:Value} {olds news:Array Value} (G:P.underlying t=some (.slice e)) (I:P.underlying u=some B) (E:notInt B=true)
  (hi:P.info? e=some i) (J:i.size=z) (x:i.zero=some A) (m:i.bytes<=100000) (h:(Builtin.lenOf y).run P w=.ok n w)
  (p:∀w':World,w'.heap=w.heap->(Builtin.firstCells z n y).run P w'=.ok news w') (j:∀w':World,w'.heap=w.heap->(Builtin.firstCells z l (.slice base l c')).run P w'=.ok olds w')
  (b:¬l+n<=c') (a:l+n<=200000):
  (Builtin.append_ #[t,u] ty #[.slice base l c',y]).run P w=.ok (.slice (some ⟨w.heap.size,0,none⟩) (l+n) (grownCap w (l+n) c' e))
    {w with drawn:=w.drawn+1,heap:=w.heap.push (.cells (olds++news++Builtin.zeroCells A.cells (grownCap w (l+n) c' e-(l+n))) e)}:=by
 subst J;have C:¬(((l+n:Nat):Int)>IntKind.i64.max/\(False\/i.bytes=0)):=by
  have e:IntKind.i64.max=9223372036854775807:=by decide
  rw[e];omega
 have D:¬(Builtin.nextslicecap (l+n) c'*i.bytes>2^48):=by
  have:=growslice_fits (need:=l+n) (old:=c') (bytes:=i.bytes) (by omega) (by
    have:(l+n)*i.bytes<=200000*100000:=Nat.mul_le_mul a m;omega)
  omega
 have d:∀w,(typeInfo e).run P w=.ok i w:=fun w=>by simp[typeInfo,hi]
 have q:∀w,(sizeOf e).run P w=.ok i.size w:=fun w=>by simp[sizeOf,d]
 have r:∀w,(zeroValue e).run P w=.ok A w:=fun w=>by simp[zeroValue,d,x]
 have o:∀w:World,(choose (.appendCap (l+n) c' e)).run P w=.ok (grownCap w (l+n) c' e) {w with drawn:=w.drawn+1}:=fun w=>rfl;have c:=j {w with drawn:=w.drawn+1} rfl;have g:=p {w with drawn:=w.drawn+1} rfl;rcases Ti E with rfl | ⟨_,rfl⟩ <;> simp only[Builtin.append_,List.getElem?_toArray,List.getElem?_cons_zero,List.getElem?_cons_succ,Sem.run_bind,run_underlying G,run_underlying I,Result.andThen_ok,q,Sem.run_pure,Bool.false_eq_true,if_false,h,b,C,d,D,o,To,
  c,Bool.not_false,if_true,g,r,Iz]
end
end Cx
end Go.Proofs.YtjefcpjciogcjaaGreatDoor
