/- Lemmas for the walk of the law, in 4 parts. No condition beyond what each states. -/
import Derived.Test.YtjefcpjciogcjaaGreatDoorG35
import Derived.MapKept
import Derived.Lib.UnsafeStr
import Derived.Lib.Builder
import Derived.Laws.Externs
import Derived.Lib.MakeNoZero
namespace Go.Proofs.YtjefcpjciogcjaaGreatDoor
set_option maxRecDepth 100000
set_option linter.unusedVariables false
namespace Cx
open Go
section
variable {P:Program} {E:Em} {w:World}
def Makes (P:Program) (E:Em) (s s':HS) (w:World) (r:Value) (x:Sem Value):Prop:=
 ∃l,s'.log=l++s.log/\s.next<=s'.next/\∃E' r' w',x.run P w=.ok r' w'/\VR E' r r'/\Tx E s.at w s.next E' s'.at w' s'.next l
theorem sourceA_len {s:HS} {z n:Nat} {y:Value} {new:List Value} (h:Ju s z n y=some new) (b:lenA y=some n):new.length=n*z:=by
 unfold Ju at h;split at h
 ·split at h
  · cases h;simp
  · cases h
 ·split at h
  ·rw[Ky]at h
   split at h
   · rename_i a;cases h;exact Bs a
   · cases h
  · cases h
 ·split at h
  · cases h;simp
  · cases h
 ·rename_i t
  split at h
  ·rename_i a
   cases h
   have c:=Bs a;subst c;simp only[lenA,Option.some.injEq]at b;subst b;have:t.data.toList.length=t.size:=rfl;rw[List.length_map,List.length_take,this,Nat.min_self,Nat.mul_one]
  · cases h
 · cases h
theorem cellsA_len {cs xs:List Value} {o n:Nat} (h:Kx cs o n=some xs):xs.length=n:=by
 rw[Ky]at h;split at h
 · rename_i a;cases h;exact Bs a
 · cases h
theorem Xz (z:Array Value) (n:Nat):(Builtin.zeroCells z n).size=n*z.size:=by simp[Builtin.zeroCells]
theorem appendA_run {s s':HS} {t u ty:Nat} {x x' y y' r:Value} (h:Pn P s t u x y=some (r,s')) (H:HR E s.at w) (hf:s.next<s'.next->E s.next=none) (hx:VR E x x') (hy:VR E y y'):
  Makes P E s s' w r (Builtin.append_ #[t,u] ty #[x',y']):=by
 unfold Pn at h;split at h
 ·rename_i e ud ht hu
  split at h
  ·rename_i i zv n hi B a2
   obtain⟨g7,g6,i',e4,g1⟩:=Kt B;rw[hi]at e4;cases e4;split at h
   · cases h
   ·rename_i z hz
    split at h
    · cases h
    ·rename_i j
     simp only[Bool.and_eq_true]at j;obtain⟨a6,e5,g2,U⟩:=j;have a6:=Cv a6;have e5:=Cv e5;split at h
     · cases h
     ·rename_i new a3
      split at h
      · cases h
      ·rename_i e8
       have b8:i.zero=some zv:=by
        unfold Lz at B;rw[hi]at B;dsimp only at B;split at B
        ·rename_i z0 g0
         split at B
         · split at B
           · cases B;exact g0
           · cases B
         · cases B
        · cases B
       have T:=fun w=>lenA_run (P:=P) a2 hy w;obtain⟨a,K,S⟩:=Oo (P:=P) a3 H hy;have X:=sourceA_len a3 a2;have J:a.length=n*(z+1):=by rw[<- K.length,X]
       have V:∀(base:Option Addr) (l q:Nat) (N m:List Value),¬l+n<=q->l<=100000->N.length=l*(z+1)->LR E N m->
         (∀p:World,p.heap=w.heap->(Builtin.firstCells (z+1) l (.slice base l q)).run P p=.ok m.toArray p)->
         ∀ (O:HS) (s1:HS) (r:Value),HR E O.at w->Cc O e (z+1) (N++new) (l+n) unk=some (r,s1)->E O.next=none->
           s1.log=O.log/\s1.next=O.next+1/\∃Y r' p,(Builtin.append_ #[t,u] ty #[.slice base l q,y']).run P w=.ok r' p/\VR Y r r'/\Tx E O.at w O.next Y s1.at p s1.next []:=by
        intro base l q N m hg W e6 b2 D O s1 r H0 f8 f4;have e9:=append_grow (P:=P) (w:=w) (ty:=ty) (z:=z+1) (base:=base) (news:=a.toArray) (olds:=m.toArray) ht hu U hi (by omega) b8 a6 (T w) S D hg (by omega);have e3:=grownCap_ge w (l+n) q e;have e7:m.length=l*(z+1):=by rw[<- b2.length,e6]
        have b5:(m.toArray++a.toArray++Builtin.zeroCells zv.cells (grownCap w (l+n) q e-(l+n))).size=grownCap w (l+n) q e*(z+1):=by
         simp only[Array.size_append,Xz,List.size_toArray,e7,J,g1,hz];have e1:grownCap w (l+n) q e=l+n+(grownCap w (l+n) q e-(l+n)):=by omega
         conv=>rhs;rw[e1]
         simp only[Nat.add_mul]
        have hH:HR E O.at {w with drawn:=w.drawn+1}:=H0.world rfl;obtain⟨k1,k2,Y,k3,k4⟩:=Gf (w:= {w with drawn:=w.drawn+1}) (cur:=m.toArray++a.toArray++Builtin.zeroCells zv.cells (grownCap w (l+n) q e-(l+n))) (fz:=(0,0)) (cap':=grownCap w (l+n) q e) f8 hH f4
         (by rw[b5,List.length_append,e6,X,<-Nat.add_mul];exact Nat.mul_le_mul_right _ e3)
         (by
           have a9:(N++new).length=(m++a).length:=(b2.append K).length;rw[a9];have:(m.toArray++a.toArray++Builtin.zeroCells zv.cells (grownCap w (l+n) q e-(l+n))).toList.take (m++a).length=m++a:=by
            simp only[Array.toList_append];rw[List.take_append_of_le_length (by simp),List.take_of_length_le (by simp)]
           rw[this];exact b2.append K)
         (.inl rfl) (.inr ⟨rfl,b5.symm⟩) e3 (by rw[b5];exact ql) (by
           have:=grownCap_le_maxLen w (l+n) q e (by unfold maxLen;omega);unfold maxLen at this;unfold unk;omega)
        exact⟨k2,k1,Y,_,_,e9,k3,by rw[k1];exact k4.drewL⟩
       unfold Po at h;simp only[Mp,apK_eq]at h;split at h
       ·obtain rfl:=Jb hx
        split at h
        ·cases h
         refine⟨[],rfl,ql,E,_,_,?_,.slice0 0 0,Tx.refl _ H⟩;rw[Hq (P:=P) (w:=w) (ty:=ty) (z:=z+1) (news:=a.toArray) ht hu U hi (by omega) (T w) (S w rfl) (by omega)]
        ·rename_i n1 _
         have f9:s'.next=s.next+1:=by
           unfold Cc at h;split at h
           · rename_i s2 b0;cases h;exact (HS.new_spec b0).2.1
           · cases h
         have h':Cc s e (z+1) ([]++new) (0+(n1+1)) unk=some (r,s'):=by simpa using h
         obtain⟨k1,k2,Y,r',p,k3,k4,k5⟩:=V none 0 0 [] [] (by omega) (by omega) (by simp) trivial (fun p _=>by simp[Builtin.firstCells]) s s' r H h' (hf (by omega));exact⟨[],by simpa using k1,by omega,Y,r',p,k3,k4,k5⟩
       ·rename_i b o l c
        split at h
        ·rename_i cs t1 z1 a4
         split at h
         · cases h
         · rename_i j
           simp only[Bool.and_eq_true]at j;obtain⟨b7,W,b6⟩:=j;have b7:=Bs b7;have W:=Cv W;have b6:=Bs b6;subst b7;subst b6;obtain⟨C,cur,fz,he,M,Q,b3,f5,g5,a7⟩:=H.row a4;obtain⟨g3,q,c9,rfl,b9,f6,G,a1⟩:=Hj hx;rw[he]at c9;cases c9;have G:o+q*(z+1)<=C.rows:=by
            rcases G with h0 | h0
            · omega
            · rw[M]at h0;exact h0
           split at h
           ·rename_i a8
            have a0:C.esz=0\/o+q*C.esz=C.rows:=by
             rcases b9 with h1 | h1
             · have:=Bs a8;omega
             · exact h1.2
            split at h
            ·cases h
             refine⟨[],rfl,ql,E,.slice (some ⟨C.blk,o,none⟩) l q,w,?_,.slice b o l unk q C he (.inr ⟨rfl,a0⟩) f6 (.inr (by rw[M];exact G)) a1,Tx.refl _ H⟩;rw[Hq (P:=P) (w:=w) (ty:=ty) (z:=z+1) (news:=a.toArray) ht hu U hi (by omega) (T w) (S w rfl) (by omega)];have:a= []:=List.length_eq_zero_iff.1 (by rw[J];omega);subst this;simp[storeCells]
            ·rename_i n1 _
             have X:new.length=(n1+1)*(z+1):=X;have J:a.length=(n1+1)*(z+1):=J;split at h
             ·rename_i R
              have R:=Wk _ _ R;have g:l+(n1+1)<=q:=by
               rcases a0 with h0 | h0
               · omega
               ·rw[M]at h0
                have h1:(l+(n1+1))*(z+1)<=q*(z+1):=by omega
                exact Nat.le_of_mul_le_mul_right h1 (Nat.succ_pos _)
              split at h
              ·rename_i s2 A
               cases h
               obtain⟨k1,k2,p,k3,k4⟩:=Ij (P:=P) A H K he;have L:=Hq (P:=P) (w:=w) (ty:=ty) (z:=z+1) (base:=some ⟨C.blk,o,none⟩) (news:=a.toArray) ht hu U hi (by omega) (T w) (S w rfl) g;simp only[Hc,k3,Result.andThen_ok]at L;exact⟨[b],k2,by omega,E,_,p,L,.slice b o _ unk q C he (.inr ⟨rfl,a0⟩) g (.inr (by rw[M];exact G)) a1,by rw[k1];exact k4⟩
              · cases h
             split at h
             ·rename_i j
              simp only[Bool.and_eq_true]at j;have I:=Bs j.1;have ho:=Bs j.2;subst ho;split at h
              ·rename_i s2 A
               cases h
               obtain⟨q1,q2,q3⟩:=HS.take_spec A;have d9:E s.next=none:=hf (by omega);by_cases g:l+(n1+1)<=q
               ·
                have L:=Hq (P:=P) (w:=w) (ty:=ty) (z:=z+1) (base:=some ⟨C.blk,0,none⟩) (news:=a.toArray) ht hu U hi (by omega) (T w) (S w rfl) g;have f1:l*(z+1)+a.length<=cur.size:=by
                 rw[J,<-Nat.add_mul,b3];have:=Nat.mul_le_mul_right (z+1) g;omega
                have b4:=Own.Ep P C.blk (l*(z+1)) t1 fz a 0 cur w Q (by simp only[Nat.add_zero];omega) (by simp only[Nat.add_zero];omega) (Wn K e8);simp only[Nat.add_zero]at b4;rw[Xe Q]at b4;simp only[Hc,Nat.zero_add,b4,Result.andThen_ok]at L;refine⟨[b],q3,by omega,updE E s.next C,_,_,L,?_,?_⟩
                · exact VR.slice s.next 0 _ unk q C (by simp[updE]) (.inr ⟨rfl,a0⟩) g (.inr (by rw[M];omega)) a1
                ·rw[q1,q2]
                 refine Tx.take H d9 he a4 ⟨M,_,fz,rfl,?_,?_,?_,?_⟩
                 · simp;omega
                 ·rcases f5 with h | h
                  · exact .inl h
                  · right;simp;omega
                 · simp[X];omega
                 ·have e1:(cs++new).length=l*(z+1)+a.length:=by rw[List.length_append,K.length,I]
                  rw[e1];have e2:(cur.toList.take (l*(z+1))++a++cur.toList.drop (l*(z+1)+a.length)).toArray.toList.take (l*(z+1)+a.length)=cur.toList.take cs.length++a:=by
                   rw[List.toList_toArray,List.take_append_of_le_length (by simp;omega),List.take_of_length_le (by simp;omega),I]
                  rw[e2];exact a7.append K
               ·
                have hD:=Tx.drop (b:=b) (n:=s.next) H;obtain⟨ys,y1,y2,y3⟩:=Ft (cs:=cs) (xs:=cs) (o:=0) (n:=l*(z+1)) (cur:=cur.toList) (by
                 have e0:(cs.drop 0).take (l*(z+1))=cs:=by rw[List.drop_zero,I,List.take_length]
                 rw[Ky];rw[e0,Iv I.symm]) a7
                have D:∀p:World,p.heap=w.heap->(Builtin.firstCells (z+1) l (.slice (some ⟨C.blk,0,none⟩) l q)).run P p=.ok ys.toArray p:=by
                 intro p hw;have:=Ir (P:=P) (w:=p) (b:=C.blk) (o:=0) (n:=l*(z+1)) (by rw[hw];exact Q) y1 y3;simp[Builtin.firstCells,this]
                let O:HS:=⟨s.heap.set deep b none,s.next,b::s.log⟩
                have f0:O.at=upd s.at b none:=by
                 have a5:Nat.ble b lim=true:=by
                  rw[HS.take_old]at A;split at A
                  · assumption
                  · cases A
                 have a5:=Cv a5
                 funext d
                 unfold upd HS.at;by_cases hd:d=b
                 · subst hd;simp only[if_true];exact Tr.Fp _ _ _ (by unfold deep;unfold lim at a5;omega)
                 · rw[if_neg hd];exact Tr.Cw _ _ _ _ hd
                have f7:Cc O t1 (z+1) (cs++new) (l+(n1+1)) unk=some (.slice (some ⟨s.next,0,none⟩) (l+(n1+1)) unk,s'):=by
                 rw[HS.take_old]at A;split at A
                 ·rename_i g4 f2
                  cases A
                  unfold Cc;rw[HS.new_old];simp only[O,f2]
                 · cases A
                obtain⟨k1,k2,Y,r',p,k3,k4,k5⟩:=V (some ⟨C.blk,0,none⟩) l q cs ys g W I.symm y2 D O s' _ (by rw[f0];exact hD.hr) f7 d9;refine⟨[b],by rw[k1];rfl,by rw[k2];exact Nat.le_succ _,Y,r',p,k3,k4,?_⟩;have k6:Tx E s.at w s.next E O.at w s.next [b]:=by rw[f0];exact hD
                exact k6.trans k5
              · cases h
             · cases h
           ·rename_i a8
            have f3:c=q:=b9.resolve_right fun h=>Mc a8 h.1;subst f3;split at h
            ·rename_i g
             have g:=Cv g;split at h
             ·rename_i s2 A
              cases h
              obtain⟨k1,k2,p,k3,k4⟩:=Ij (P:=P) A H K he;have L:=Hq (P:=P) (w:=w) (ty:=ty) (z:=z+1) (base:=some ⟨C.blk,o,none⟩) (news:=a.toArray) ht hu U hi (by omega) (T w) (S w rfl) g;simp only[Hc,k3,Result.andThen_ok]at L;exact⟨[b],k2,by omega,E,_,p,L,.slice b o _ c c C he (.inl rfl) g (.inr (by rw[M];exact G)) a1,by rw[k1];exact k4⟩
             · cases h
            ·rename_i g
             have g:=ble_gt g;split at h
             ·rename_i N D
              have f9:s'.next=s.next+1:=by
               unfold Cc at h;split at h
               · rename_i s2 b0;cases h;exact (HS.new_spec b0).2.1
               · cases h
              obtain⟨ys,y1,y2,y3⟩:=Ft D a7;have b1:∀p:World,p.heap=w.heap->(Builtin.firstCells (z+1) l (.slice (some ⟨C.blk,o,none⟩) l c)).run P p=.ok ys.toArray p:=by
               intro p hw;have:=Ir (P:=P) (w:=p) (b:=C.blk) (o:=o) (n:=l*(z+1)) (by rw[hw];exact Q) y1 y3;simp[Builtin.firstCells,this]
              obtain⟨k1,k2,Y,r',p,k3,k4,k5⟩:=V (some ⟨C.blk,o,none⟩) l c N ys (by omega) W (cellsA_len D) y2 b1 s s' r H h (hf (by omega));exact⟨[],by simpa using k1,by omega,Y,r',p,k3,k4,k5⟩
             · cases h
        · cases h
       · cases h
  · cases h
 · cases h
end
end Cx
namespace Cx
open Go
section
variable {P:Program} {E:Em} {w:World}
theorem copyA_run {s J:HS} {t ty:Nat} {q:Array TypeId} {N:List TypeId} {x K y L r:Value} (h:copyA P s t x y=some (r,J)) (p:q.toList=t::N) (H:HR E s.at w) (C:VR E x K) (D:VR E y L):
  Makes P E s J w r (Builtin.copy_ q ty #[K,L]):=by
 have i:q[0]? =some t:=by rw[<- Array.getElem?_toList,p];rfl
 unfold copyA at h;split at h
 ·rename_i e u l c n B d
  split at h
  ·rename_i z G
   split at h
   ·rename_i new g
    obtain⟨I,j,a⟩:=Oo (P:=P) g H D;have a:=a w rfl;have A:=lenA_run (P:=P) d D w;split at h
    ·rename_i b o
     split at h
     ·rename_i S m
      cases h
      obtain⟨R,Q,M,rfl,_⟩:=Hj C;obtain⟨k1,k2,O,k3,k4⟩:=Ij (P:=P) m H j M;refine⟨[b],k2,by omega,E,_,O,?_,.int _ _,by rw[k1];exact k4⟩;simp[Builtin.copy_,i,run_underlying B,A,Cg G,a,k3,goInt]
     · cases h
    ·cases h
     obtain rfl:=Jb C;refine⟨[],rfl,ql,E,_,w,?_,.int _ _,Tx.refl _ H⟩;simp[Builtin.copy_,i,run_underlying B,A,Cg G,a,goInt]
    · cases h
   · cases h
  · cases h
 · cases h
theorem Qv:∀(xs:List Value) (l:List UInt8),Qu xs=some l->∃ns:List Int,xs=ns.map (Value.int .u8)/\l=ns.map (fun n=>UInt8.ofNat n.toNat)
 | [],l,h=>by simp only[Qu,Option.some.injEq]at h;subst h;exact⟨[],rfl,rfl⟩
 |x::xs,l,h=>by
  unfold Qu at h;split at h
  · rename_i h0;cases h0
  ·rename_i n r h0
   cases h0
   split at h
   ·rename_i l' hl
    cases h
    obtain⟨ns,h1,h2⟩:=Qv xs l' hl;exact⟨n::ns,by rw[h1];rfl,by rw[h2];rfl⟩
   · cases h
  · cases h
theorem push_all:∀(l:List Int) (r:ByteArray),l.foldl (fun r n=>r.push (UInt8.ofNat n.toNat)) r=⟨r.data++(l.map fun z=>UInt8.ofNat z.toNat).toArray⟩
 | [],r=>by simp
 | z::l,r=>by simp only[List.foldl_cons,push_all l];simp[ByteArray.push]
theorem convA_run {s J:HS} {q i:Nat} {x R r:Value} (h:convA P s q i x=some (r,J)) (H:HR E s.at w) (Y:s.next<J.next->E s.next=none) (p:VR E x R):
  Makes P E s J w r (convert q i R):=by
 unfold convA at h;split at h
 ·rename_i e a n c I D
  split at h
  ·rename_i g
   split at h
   ·cases h
    obtain rfl:=Jb p;refine⟨[],rfl,ql,E,_,w,?_,.string _,Tx.refl _ H⟩;simp[convert,run_underlying I,run_underlying D,run_underlying g,Conv.bytesToString]
   ·rename_i b o
    split at h
    · rename_i cs t1 z1 B
      split at h
      ·rename_i xs N
       split at h
       ·rename_i l G
        cases h
        obtain⟨U,cur,fz,X,_,u,_,_,_,K⟩:=H.row B;obtain⟨V,T,z,rfl,_⟩:=Hj p;rw[X]at z;cases z;obtain⟨ys,y1,y2,y3⟩:=Ft N K;obtain⟨ns,rfl,rfl⟩:=Qv xs l G;have O:ys=ns.map (Value.int .u8):=Ee y2 fun x p y hv=>by
         obtain⟨n,_,rfl⟩:=List.mem_map.1 p;exact Eh hv
        have d:=Ir (P:=P) u y1 y3;rw[O]at d;have hr:=run_bytesToString (P:=P) w ⟨U.blk,o,none⟩ n T ns d;refine⟨[],rfl,ql,E,_,w,?_,.string _,Tx.refl _ H⟩;rw[push_all]at hr;have L:ByteArray.empty.data=#[]:=rfl;rw[L]at hr;simp only[Array.empty_append]at hr;simp[convert,run_underlying I,run_underlying D,run_underlying g,hr]
       · cases h
      · cases h
    · cases h
   · cases h
  · cases h
 ·rename_i e t I D
  split at h
  ·rename_i g
   split at h
   case h_2=>cases h
   rename_i m;have m:=Cv m;obtain rfl:=Eo p;have a0:J.next=s.next+1:=by
    unfold Cc at h;split at h
    · rename_i s2 M;cases h;exact (HS.new_spec M).2.1
    · cases h
   have C:=run_bytes_of_string (P:=P) w q i e t I D g;have A:=grownCap_ge w t.size 0 e;have j:(bytesRow t (grownCap w t.size 0 e)).size=grownCap w t.size 0 e:=by
    have:t.data.size=t.size:=rfl;simp[bytesRow];omega
   have W:HR E s.at w.drew:=H.world rfl;have G:(t.data.toList.map fun b=>Value.int .u8 (b.toNat:Int)).length=t.size:=by rw[List.length_map];rfl
   obtain⟨k1,k2,S,k3,k4⟩:=Gf (w:=w.drew) (cur:=bytesRow t (grownCap w t.size 0 e)) (fz:=((bytesRow t (grownCap w t.size 0 e)).size,(bytesRow t (grownCap w t.size 0 e)).size+1)) (cap':=grownCap w t.size 0 e) h W (Y (by omega))
    (by rw[G,j];exact A)
    (by
      rw[G];have:(bytesRow t (grownCap w t.size 0 e)).toList.take t.size=t.data.toList.map fun b=>Value.int .u8 (b.toNat:Int):=by
       have Q:t.data.size=t.size:=rfl;simp only[bytesRow,Array.toList_append,Array.toList_map];rw[List.take_append_of_le_length (by simp[Q]),List.take_of_length_le (by simp[Q])]
      rw[this];refine Gm ?_;rw[List.all_eq_true];intro x p;obtain⟨b,_,rfl⟩:=List.mem_map.1 p;rfl)
    (.inr ql) (.inr ⟨rfl,by rw[j,Nat.mul_one]⟩) A (by rw[j,Nat.mul_one];exact ql) (by
      have:=grownCap_le_maxLen w t.size 0 e (by unfold maxLen;unfold lim at m;omega);unfold maxLen at this;unfold unk;omega)
   refine⟨[],by simpa using k2,by omega,S,_,_,C,k3,?_⟩;rw[k1];exact k4.drewL
  · cases h
 · cases h
theorem ELR.length:∀ {xs a:List MapEntry},ELR E xs a->xs.length=a.length
 | [],[],_=>rfl
 | _::_,_::_,h=>by simp[ELR.length h.2]
 | [],_::_,h=>h.elim
 | _::_,[],h=>h.elim
theorem ELR.at:∀ {xs c:List MapEntry},ELR E xs c->∀(i:Nat) (x:MapEntry),xs[i]? =some x->∃y,c[i]? =some y/\ER E x y
 | [],[],_,i,x,hx=>by simp at hx
 |a::xs,b::c,h,i,x,hx=>by
  cases i with
  | zero=>simp at hx;subst hx;exact⟨b,rfl,h.1⟩
  | succ i=>simpa using ELR.at h.2 i x (by simpa using hx)
 | [],_::_,h,_,_,_=>h.elim
 | _::_,[],h,_,_,_=>h.elim
theorem ELR.append:∀ {xs c a b:List MapEntry},ELR E xs c->ELR E a b->ELR E (xs++a) (c++b)
 | [],[],_,_,_,h=>h
 | _::_,_::_,_,_,h,k=>⟨h.1,ELR.append h.2 k⟩
 | [],_::_,_,_,h,_=>h.elim
 | _::_,[],_,_,h,_=>h.elim
theorem ELR.modify {f g:MapEntry->MapEntry} (a:∀x y,ER E x y->ER E (f x) (g y)):∀ {xs b:List MapEntry} (i:Nat),ELR E xs b->ELR E (xs.modify i f) (b.modify i g)
 | [],[],_,_=>by simp[ELR]
 | _::_,_::_,0,h=>by simpa [ELR] using ⟨a _ _ h.1,h.2⟩
 | _::_,_::_,i+1,h=>by simpa [ELR] using ⟨h.1,ELR.modify a i h.2⟩
 | [],_::_,_,h=>h.elim
 | _::_,[],_,h=>h.elim
def FR (E:Em):Option (Nat×Value)->Option (Nat×Value)->Prop
 | none,none=>True
 | some (i,v),some (j,v')=>i=j/\VR E v v'
 | _,_=>False
theorem equalIn_int {c:Nat} {j k:IntKind} {a b:Int} (n:Nat) (d:P.underlying c=some (.int j)) (w:World):(Op.equalIn (n+1) c (.int k a) (.int k b)).run P w=.ok (a==b) w:=by
 simp[Op.equalIn,run_underlying d]
theorem Vy {c:Nat} {a b:ByteArray} (n:Nat) (d:P.underlying c=some .string) (w:World):(Op.equalIn (n+1) c (.string a) (.string b)).run P w=.ok (a==b) w:=by
 simp[Op.equalIn,run_underlying d]
theorem equalIn_bool {c:Nat} {a b:Bool} (n:Nat) (d:P.underlying c=some .bool) (w:World):(Op.equalIn (n+1) c (.bool a) (.bool b)).run P w=.ok (a==b) w:=by
 simp[Op.equalIn,run_underlying d]
theorem ok_inj {α:Type} {a b:α} {w:World} (h:(Result.ok a w:Result α)=.ok b w):a=b:=by cases h;rfl
theorem On {g:Nat} {d:TypeDesc} (a:P.underlying g=some d) {k e:Value} {b c:Bool} (h:Instr.sameNow d k e=some b) (j:Ds P (Op.equal g k e)=some c):b=c:=by
 have hr:=Db _ _ j (default:World);rw[equal_eq]at hr;unfold Instr.sameNow at h;split at h
 ·split at h
  ·rename_i i
   subst i;cases h
   rw[equalIn_int 9999 a]at hr;exact ok_inj hr
  · cases h
 ·cases h
  rw[Vy 9999 a]at hr;exact ok_inj hr
 ·cases h
  rw[equalIn_bool 9999 a]at hr;exact ok_inj hr
 · cases h
theorem Sx {m:Nat} {d:TypeDesc} (l:P.underlying m=some d) {k:Value}:∀(c a:List MapEntry) (i:Nat) (r b:Option (Nat×Value)),ELR E c a->Od P m k c i=some r->Instr.findNow d k a i=some b->FR E r b
 | [],[],i,r,b,_,h,h'=>by
   simp only[Od,Option.some.injEq]at h;simp only[Instr.findNow,Option.some.injEq]at h';subst h;subst h';trivial
 | e::c,e'::a,i,r,b,hE,h,h'=>by
   obtain⟨⟨hk,hb,hv,_⟩,hE⟩:=hE;simp only[Od,hb]at h;unfold Instr.findNow at h';rw[<- hk]at h';split at h
   ·rename_i g
    split at h'
    · cases h;cases h';exact⟨rfl,hv⟩
    · rename_i j;exact absurd (On l j g) (by simp)
    · cases h'
   ·rename_i g
    split at h'
    · rename_i j;exact absurd (On l j g) (by simp)
    · exact Sx l c a (i+1) r b hE h h'
    · cases h'
   · cases h
 | [],_::_,_,_,_,h,_,_=>h.elim
 | _::_,[],_,_,_,h,_,_=>h.elim
theorem Mm {d:Nat} {k:Value}:∀(b a:List MapEntry) (i:Nat) (r:Option (Nat×Value)),ELR E b a->Od P d k b i=some r->∃r',FR E r r'/\∀w,(Instr.findAsking d k a i).run P w=.ok r' w
 | [],[],i,r,_,h=>by
   simp only[Od,Option.some.injEq]at h;subst h;exact⟨none,trivial,fun w=>rfl⟩
 | e::b,e'::a,i,r,hE,h=>by
   obtain⟨⟨hk,hb,hv,_⟩,hE⟩:=hE;simp only[Od,hb]at h;split at h
   ·rename_i c
    cases h
    refine⟨some (i,e'.val),⟨rfl,hv⟩,fun w=>?_⟩;have hr:=Db _ _ c w;rw[hk]at hr;simp[Instr.findAsking,hr]
   ·rename_i c
    obtain⟨r',g,j⟩:=Mm b a (i+1) r hE h;refine⟨r',g,fun w=>?_⟩;have hr:=Db _ _ c w;rw[hk]at hr;simp[Instr.findAsking,hr,j]
   · cases h
 | [],_::_,_,_,h,_=>h.elim
 | _::_,[],_,_,h,_=>h.elim
theorem Jk {e:Nat} {d:TypeDesc} (c:P.underlying e=some d) {k:Value} {b a:List MapEntry} {r:Option (Nat×Value)} (g:ELR E b a) (h:Od P e k b 0=some r):
  ∃r',FR E r r'/\∀w,(Instr.findKey e k a).run P w=.ok r' w:=by
 cases hn:Instr.findNow d k a 0 with
 | some r'=>exact⟨r',Sx c b a 0 r r' g h hn,fun w=>by simp[Instr.findKey,run_underlying c,hn]⟩
 |none=>
  obtain⟨r',i,j⟩:=Mm b a 0 r g h;exact⟨r',i,fun w=>by simp[Instr.findKey,run_underlying c,hn,j]⟩
end
end Cx
namespace Cx
open Go
section
variable {P:Program} {E:Em} {w:World}
theorem map_inv {r:Nat} {v:Value} (h:VR E (.map (some r)) v):∃e,E r=some e/\v=.map (some e.blk):=by
 cases h with
 | map r e he=>exact⟨e,he,rfl⟩
theorem map0_inv {v:Value} (h:VR E (.map none) v):v=.map none:=by cases h;rfl
theorem HR.mapAt {h:Hp} (H:HR E h w) {b c:Nat} {a:List MapEntry} (i:h b=some (.map a c)):
  ∃e es',E b=some e/\w.heap[e.blk]? =some (.map es' c)/\ELR E a es'.toList:=by
 obtain⟨e,j,es',d,g⟩:=H.here b _ i;exact⟨e,es',j,d,g⟩
theorem Zj {c:List MapEntry} {b:Array MapEntry} (h:ELR E c b.toList):c.isEmpty=b.isEmpty:=by
 have d:=h.length;cases c with
 |nil=>
  have:b=#[]:=Array.eq_empty_of_size_eq_zero (by simpa using d.symm);rw[this];rfl
 |cons a c=>
  have e:b.size≠0:=by simp at d;omega
  cases hb:b.isEmpty
  · rfl
  · rw[Array.isEmpty_iff]at hb;rw[hb]at e;simp at e
theorem Gq {e:Bool} {n a:Nat} {k:Value} {u:Unit} (h:Ds P (Instr.checkKey e (n+1) a k)=some u):∃d,P.underlying a=some d:=by
 cases hd:P.underlying a with
 | some d=>exact⟨d,rfl⟩
 |none=>
  have:=Db _ _ h (default:World);simp[Instr.checkKey,underlying,hd]at this
theorem ok_rel (ok:Bool) {v a:Value} (b:Bool) (d:VR E v a):VR E (match ok with | true=>.tuple #[v,.bool b] | false=>v) (if ok then .tuple #[a,.bool b] else a):=by
 cases ok
 · exact d
 · exact VR.tuple' (c:=#[v,.bool b]) (c':=#[a,.bool b]) ⟨d,.bool b,trivial⟩
theorem lookupA_run {s:HS} {t:Nat} {m A k y r:Value} {ok:Bool} (h:lookupA P s t m k ok=some r) (H:HR E s.at w) (O:VR E m A) (Y:VR E k y):
  ∃r',VR E r r'/\(Instr.lookup t A y ok).run P w=.ok r' w:=by
 unfold lookupA at h;split at h
 ·rename_i R U Q G
  obtain rfl:=Pp G Y;split at h
  ·rename_i rr z hz
   obtain⟨M,L,_⟩:=Kt hz;split at h
   ·rename_i S g
    have B:∃a:Array MapEntry,ELR E S a.toList/\((A=.map none/\a=#[])\/∃b c,A=.map (some b)/\w.heap[b]? =some (.map a c)):=by
     cases rr with
     |none=>
      simp only[Option.some.injEq]at g;subst g;exact⟨#[],trivial,.inl ⟨map0_inv O,rfl⟩⟩
     |some b=>
      simp only at g;split at g
      ·rename_i T c x
       cases g
       obtain⟨e,a,X,V,W⟩:=H.mapAt x;obtain⟨e',q,rfl⟩:=map_inv O;rw[X]at q;cases q;exact⟨a,W,.inr ⟨_,c,rfl,V⟩⟩
      · cases g
    obtain⟨a,C,K⟩:=B
    have o:∀(v:Value) (b:Bool),(do Instr.checkKey a.isEmpty 10000 R y
                                   let (v,ok')<-match<-Instr.findKey R y a.toList with
                                    | some (_,v)=>pure (v,true)
                                    | none=>pure (<- zeroValue U,false)
                                   pure (if ok then .tuple #[v,.bool ok'] else v):Sem Value).run P w=.ok (if ok then .tuple #[v,.bool b] else v) w->
      (Instr.lookup t A y ok).run P w=.ok (if ok then .tuple #[v,.bool b] else v) w:=by
     intro v b hv;rw[<- hv];rcases K with ⟨rfl,rfl⟩ | ⟨b,c,rfl,G⟩
     · simp only[Instr.lookup,Sem.run_bind,run_underlying Q,Result.andThen_ok,Sem.run_pure];rfl
     · simp only[Instr.lookup,Sem.run_bind,run_underlying Q,Result.andThen_ok,Sem.run_pure,MapKept.run_getObj_map G];rfl
    split at h
    ·rename_i u i v p J
     cases h
     obtain⟨d,I⟩:=Gq (n:=9999) p;obtain⟨r',D,N⟩:=Jk I C J;have l:=Db _ _ p w;rw[Zj C]at l;cases r' with
     | none=>exact D.elim
     |some r'=>
      obtain⟨j,v'⟩:=r';exact⟨_,ok_rel ok true D.2,o v' true (by simp[l,N])⟩
    ·rename_i u p J
     cases h
     obtain⟨d,I⟩:=Gq (n:=9999) p;obtain⟨r',D,N⟩:=Jk I C J;have l:=Db _ _ p w;rw[Zj C]at l;cases r' with
     | none=>exact⟨_,ok_rel ok false (Du z L),o z false (by simp[l,N,M])⟩
     | some r'=>exact D.elim
    · cases h
   · cases h
  · cases h
 · cases h
theorem Wq {s K:HS} {t:Nat} {m m' k q v G:Value} (h:It P s t m k v=some K) (H:HR E s.at w) (hm:VR E m m') (hk:VR E k q) (hv:VR E v G):
  K.next=s.next/\∃b,K.log=b::s.log/\∃w',(Instr.mapUpdate t m' q G).run P w=.ok () w'/\Tx E s.at w s.next E K.at w' s.next [b]:=by
 unfold It at h;simp only[Ki,Dx]at h;split at h
 ·rename_i kt et r hu M
  obtain rfl:=Pp M hk;split at h
  ·rename_i es c a
   obtain⟨e,l,O,I,A⟩:=H.mapAt a;obtain⟨e',C,rfl⟩:=map_inv hm;rw[O]at C;cases C;split at h
   ·rename_i u i v0 B R
    obtain⟨d,N⟩:=Gq (n:=9999) B;obtain⟨z,J,Y⟩:=Jk N A R;have o:=Db _ _ B w;split at h
    ·rename_i en Q
     split at h
     ·rename_i p
      obtain⟨V,W,X⟩:=HS.put_spec h;cases z with
      | none=>exact J.elim
      |some z=>
       obtain⟨j,v1⟩:=z;obtain⟨S,_⟩:=J;subst S;obtain⟨a0,D,L⟩:=A.at i en Q;refine⟨W,r,X,{w with heap:=w.heap.setIfInBounds e.blk (.map (l.modify i fun e=> {e with key:=q,val:=G}) c)},?_,?_⟩
       ·have T:(((l[i]?).map (·.key)).getD q)=en.key:=by
         rw[<- Array.getElem?_toList,D];simp[L.1]
        simp[Instr.mapUpdate,run_underlying hu,MapKept.run_getObj_map I,o,Y,Instr.keyThatStays,T,p,MapKept.run_setObj_map _ I]
       ·rw[V]
        refine Tx.put H O a ⟨_,rfl,?_⟩;rw[Array.toList_modify];exact ELR.modify (f:=fun e=> {e with key:=q,val:=v}) (g:=fun e=> {e with key:=q,val:=G}) (fun x y U=>⟨rfl,M,hv,U.2.2.2⟩) i A
     · cases h
    · cases h
   ·rename_i u B R
    obtain⟨d,N⟩:=Gq (n:=9999) B;obtain⟨z,J,Y⟩:=Jk N A R;have o:=Db _ _ B w;obtain⟨V,W,X⟩:=HS.put_spec h;cases z with
    | some z=>exact J.elim
    |none=>
     refine⟨W,r,X,{w with heap:=w.heap.setIfInBounds e.blk (.map (l.push {key:=q,val:=G,born:=c}) (c+1))},?_,?_⟩
     · simp[Instr.mapUpdate,run_underlying hu,MapKept.run_getObj_map I,o,Y,MapKept.run_setObj_map _ I]
     ·rw[V]
      refine Tx.put H O a ⟨_,rfl,?_⟩;rw[Array.toList_push];exact A.append ⟨⟨rfl,M,hv,rfl⟩,trivial⟩
   · cases h
  · cases h
 · cases h
theorem makeMap_run {s a:HS} {t:Nat} (h:s.new (.map [] 0)=some a) (H:HR E s.at w) (e:E s.next=none):
  a.next=s.next+1/\a.log=s.log/\∃E' r' w',(Instr.makeMap t none).run P w=.ok r' w'/\VR E' (.map (some s.next)) r'/\Tx E s.at w s.next E' a.at w' (s.next+1) []:=by
 obtain⟨b,c,d⟩:=HS.new_spec h;refine⟨c,d,updE E s.next ⟨w.heap.size,0,0⟩,.map (some w.heap.size),{w with heap:=w.heap.push (.map #[] 0)},?_,?_,?_⟩
 · rfl
 · exact VR.map s.next ⟨w.heap.size,0,0⟩ (by simp[updE])
 ·rw[b]
  exact Tx.new H e rfl ⟨#[],rfl,trivial⟩
end
end Cx
namespace Cx
open Go
section
variable {P:Program} {E:Em} {w:World}
theorem Ko {x:Value} {q:List Value} (h:LR E [x] q):∃x',q= [x']/\VR E x x':=by
 cases q with
 | nil=>exact h.elim
 |cons a q=>cases q with
  | nil=>exact⟨a,rfl,h.1⟩
  | cons b q=>exact h.2.elim
theorem Rv {g:Nat} {cur:Array Value} {t:Nat} {fz:Nat×Nat} (h:w.heap[g]? =some (.cells cur t fz)):w.shape? g=some (t,cur.size):=by
 unfold World.shape?;rw[h]
theorem liesAt_head {e:TypeId} (g:0<P.cellsOf e) (a:Nat) (d:1<=a):liesAt P P.depth e a 0 e 1=true:=by
 have b:P.depth=(2*(P.types.size+Made.depth)+1)+1:=rfl;have c:P.cellsOf e≠0:=by omega
 rw[b];simp only[liesAt,Bool.or_eq_true];left;rw[b];simp[rowAt,c,d,sameLayout]
theorem convPtrA_run {s:HS} {m g:Nat} {x J v:Value} (h:Vr P s m g x=some v) (H:HR E s.at w) (I:VR E x J):∃v',VR E v v'/\(convert m g J).run P w=.ok v' w:=by
 unfold Vr at h;split at h
 ·rename_i t b o B q
  split at h
  ·rename_i D C z j c r
   split at h
   ·rename_i n A
    cases h
    obtain⟨e,d,fz,l,_,p,_,_,y,_⟩:=H.row c;obtain⟨K,a,rfl⟩:=Fq I;rw[l]at a;cases a
    have G:o<D.length:=by simpa [Nat.blt_eq] using A
    exact⟨_,VR.ptr b o e l,Lib.run_to_unsafe (P:=P) w ⟨e.blk,o,none⟩ B q r (Mc n) (Rv p) (by show o<d.size;omega)⟩
   · cases h
  · cases h
 ·rename_i u b B q
  split at h
  ·rename_i D C z j c r
   split at h
   ·rename_i n L M
    cases h
    obtain rfl:=Bs n;obtain⟨e,d,fz,l,_,p,_,_,y,_⟩:=H.row c;obtain⟨K,a,rfl⟩:=Fq I;rw[l]at a;cases a
    have i:0<P.cellsOf C:=by simpa [Nat.blt_eq] using L
    have N:=Cv M;have O:1<=d.size/P.cellsOf C:=(Nat.one_le_div_iff i).2 (by omega);exact⟨_,VR.ptr b 0 e l,Lib.run_from_unsafe (P:=P) w ⟨e.blk,0,none⟩ B q r (Rv p) (liesAt_head i _ O)⟩
   · cases h
  · cases h
 · cases h
theorem Sh:∀(xs:List Value) (l:List UInt8),Vj xs=some l->xs=Lib.byteCells l
 | [],l,h=>by simp only[Vj,Option.some.injEq]at h;subst h;rfl
 |x::xs,l,h=>by
  unfold Vj at h;split at h
  · rename_i h0;cases h0
  ·rename_i i r h0
   cases h0
   split at h
   ·rename_i n
    split at h
    ·rename_i l' hn hl
     cases h
     have hlt:n<256:=by simpa [Nat.blt_eq] using hn
     have a:(UInt8.ofNat n).toNat=n:=by simp[Nat.mod_eq_of_lt hlt]
     rw[Sh xs l' hl];show _=Value.int .u8 ((UInt8.ofNat n).toNat:Int)::Lib.byteCells l';rw[a];rfl
    · cases h
   · cases h
  · cases h
theorem freeze_put {g n:Nat} {cur:Array Value} {t:Nat} {fz:Nat×Nat} (c:n≠0) (b:w.heap[g]? =some (.cells cur t fz)):∃o,w.freeze ⟨g,0,none⟩ n= {w with heap:=w.heap.setIfInBounds g o}:=by
 obtain⟨lo,hi⟩:=fz;refine⟨.cells cur t (if lo==hi then (0,0+n) else (min lo 0,max hi (0+n))),?_⟩;unfold World.freeze;rw[if_neg c]
 congr 1
 apply Array.ext_getElem?;intro i;rw[Array.getElem?_modify,Array.getElem?_setIfInBounds];by_cases hi:g=i
 ·subst hi
  obtain⟨a,d⟩:=Array.getElem?_eq_some_iff.1 b;simp[a,d]
 · simp[hi]
theorem unStrA_run {s R:HS} {L it ty:Nat} {x S n n' r:Value} (h:Xn P s L x n=some (r,R)) (H:HR E s.at w) (J:VR E x S) (hn:VR E n n'):
  Makes P E s R w r (Builtin.unsafeString_ #[L,it] ty #[S,n']):=by
 unfold Xn at h;split at h
 ·rename_i e b i hu
  split at h
  ·rename_i cs t z d
   split at h
   ·rename_i m C hm
    split at h
    ·rename_i xs K
     split at h
     ·rename_i l s1 hl I
      cases h
      rw[Bool.and_eq_true]at C;obtain rfl:=Bs C.1;have D:=Bs C.2;obtain⟨rfl,Q⟩:=Il hm;obtain rfl:=Eh hn;obtain⟨B,g,fz,N,_,a,_,_,_,G⟩:=H.row d;obtain⟨U,u,rfl⟩:=Fq J;rw[N]at u;cases u
      obtain⟨M,y1,y2,T⟩:=Ft K G;obtain rfl:=Sh xs l hl;have A:M=Lib.byteCells l:=Ee y2 fun x J y hv=>by
       obtain⟨n,_,rfl⟩:=List.mem_map.1 J;exact Eh hv
      have q:l.length=m+1:=by rw[<- y1,A,Lib.byteCells_length]
      obtain⟨p1,p2,p3⟩:=HS.drop_spec I;have p:∀j x,l[j]? =some x->w.cell? ((⟨B.blk,0,none⟩:Addr).add j)=some (.int .u8 x.toNat):=by
       intro j x hj;rw[Hc,cell_of_row w B.blk (0+j) g _ fz a];have:=T j (.int .u8 x.toNat) (by rw[A];simp[Lib.byteCells,hj]);simpa using this
      have O:m+1<=g.size:=by
       have W:M[m]? =some M[m]:=List.getElem?_eq_getElem (by omega);have X:=T m _ W;have Y:=(List.getElem?_eq_some_iff.1 X).1;simp at Y;omega
      have c:=Lib.run_unsafeString_row (P:=P) w L it ty e hu D B.blk g.size (Rv a) l (by intro V;rw[V]at q;cases q) (by omega) (by omega) p;rw[q]at c;obtain⟨o,ho⟩:=freeze_put (w:=w) (n:=m+1) (by omega) a;rw[ho]at c;refine⟨[b],p3,by omega,E,_,_,c,VR.string _,?_⟩;rw[p1,p2];exact Tx.letgo H N d o
     · cases h
    · cases h
   · cases h
  · cases h
 · cases h
theorem lenMapA_run {s:HS} {t ty:Nat} {m j v:Value} (h:lenMapA P s t m=some v) (H:HR E s.at w) (i:VR E m j):∃v',VR E v v'/\(Builtin.len_ #[t] ty #[j]).run P w=.ok v' w:=by
 unfold lenMapA at h;split at h
 ·rename_i k e g
  cases h
  obtain rfl:=map0_inv i;exact⟨_,.int _ _,by simp[Builtin.len_,run_underlying g,goInt]⟩
 ·rename_i k e r g
  split at h
  ·rename_i n c b
   cases h
   obtain⟨y,d,q,o,p⟩:=H.mapAt b;obtain⟨l,a,rfl⟩:=map_inv i;rw[q]at a;cases a
   have u:=p.length;refine⟨_,.int _ _,?_⟩;have x:d.size=n.length:=by simpa using u.symm
   simp[Builtin.len_,run_underlying g,MapKept.run_getObj_map o,goInt,x]
  · cases h
 · cases h
theorem noEscape_run {g:Nat} {fn:Func} (h:P.funcs[g]? =some fn) (a:fn.name= "internal/abi.NoEscape") (b:fn.origin= "") (c:fn.body=none) (x:Value) (w:World):
  (callFunc g #[x]).run P w=.ok (.value x) w:=by
 obtain⟨name,origin,d⟩:=fn;simp only at a b c;subst a;subst b;rw[run_callFunc_extern h (by rfl) (by rw[c];rfl) (by kernel_rfl) (e:=Extern.AbiNoEscape.same) (by kernel_rfl)];rfl
theorem Wo {g:Nat} {fn:Func} {t:TypeId} (m:P.funcs[g]? =some fn) (a:fn.name= "internal/bytealg.MakeNoZero") (b:fn.origin= "") (i:fn.body=none) (c:fn.resultTypes=#[t]) {n:Int} {v:Value} {w l:World}
  (h:(Extern.BytealgMakeNoZero.makeNoZero fn.params #[t] #[.int .i64 n]).run P w=.ok v l):(callFunc g #[.int .i64 n]).run P w=.ok (.value v) l:=by
 obtain⟨name,origin,d,params,resultTypes,j⟩:=fn;simp only at a b i c h;subst a;subst b;subst c;rw[run_callFunc_extern m (by rfl) (by rw[i];rfl) (by kernel_rfl) (e:=Extern.BytealgMakeNoZero.makeNoZero params #[t]) (by kernel_rfl)];rw[h];rfl
end
end Cx
end Go.Proofs.YtjefcpjciogcjaaGreatDoor
