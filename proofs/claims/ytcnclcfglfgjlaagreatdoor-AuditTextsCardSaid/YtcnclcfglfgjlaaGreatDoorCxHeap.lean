/- A machine that runs a program's code on written inputs by computation alone, part 2: the kept heap, how it lies in a world, and what a run may change. No condition. -/
import Derived.Test.YtcnclcfglfgjlaaGreatDoorCxCore
namespace Go.Proofs.YtcnclcfglfgjlaaGreatDoor.Cx
open Go

/-- a kept object -/
inductive AObj where
  | row (cells : List Value) (elem : TypeId) (esz : Nat)
  | map (es : List MapEntry) (clock : Nat)

abbrev Hp := Nat → Option AObj

def ER (E : Em) (a b : MapEntry) : Prop := a.key = b.key ∧ bare a.key = true ∧ VR E a.val b.val ∧ a.born = b.born
def ELR (E : Em) : List MapEntry → List MapEntry → Prop
  | [], [] => True
  | x :: xs, y :: ys => ER E x y ∧ ELR E xs ys
  | _, _ => False
theorem ELR.ext {E E' : Em} (hE : Ext E E') : ∀ {xs ys : List MapEntry}, ELR E xs ys → ELR E' xs ys
  | [], [], _ => trivial
  | _ :: _, _ :: _, h => ⟨⟨h.1.1, h.1.2.1, h.1.2.2.1.ext hE, h.1.2.2.2⟩, ELR.ext hE h.2⟩
  | [], _ :: _, h => h.elim
  | _ :: _, [], h => h.elim

/-- a kept object lies in a world's block -/
def OR (E : Em) (e : Emb) : AObj → Option Obj → Prop
  | .row cs t z, o => e.esz = z ∧ ∃ cur fz, o = some (.cells cur t fz) ∧ cur.size = e.rows ∧ (fz.2 = 0 ∨ cur.size ≤ fz.1) ∧ cs.length ≤ cur.size ∧ LR E cs (cur.toList.take cs.length)
  | .map es c, o => ∃ es', o = some (.map es' c) ∧ ELR E es es'.toList

theorem OR.ext {E E' : Em} (hE : Ext E E') {e : Emb} {a : AObj} {o : Option Obj} (h : OR E e a o) : OR E' e a o := by
  cases a with
  | row cs t z =>
    obtain ⟨hz, cur, fz, h1, h2, h3, h4, h5⟩ := h
    exact ⟨hz, cur, fz, h1, h2, h3, h4, h5.ext hE⟩
  | map es c =>
    obtain ⟨es', h1, h2⟩ := h
    exact ⟨es', h1, h2.ext hE⟩

/-- a kept heap lies in a world -/
structure HR (E : Em) (h : Hp) (w : World) : Prop where
  here : ∀ b o, h b = some o → ∃ e, E b = some e ∧ OR E e o (w.heap[e.blk]?)
  inj : ∀ b c o o' e e', h b = some o → h c = some o' → E b = some e → E c = some e' → e.blk = e'.blk → b = c

theorem OR.some {E : Em} {e : Emb} {a : AObj} {o : Option Obj} (h : OR E e a o) : ∃ x, o = some x := by
  cases a with
  | row cs t z => obtain ⟨_, cur, fz, h1, _⟩ := h; exact ⟨_, h1⟩
  | map es c => obtain ⟨es', h1, _⟩ := h; exact ⟨_, h1⟩
theorem HR.lt {E : Em} {h : Hp} {w : World} (H : HR E h w) {b : Nat} {o : AObj} {e : Emb} (hb : h b = some o) (he : E b = some e) : e.blk < w.heap.size := by
  obtain ⟨e', he', ho⟩ := H.here b o hb
  rw [he] at he'
  cases he'
  obtain ⟨x, hx⟩ := ho.some
  exact (Array.getElem?_eq_some_iff.1 hx).1

/-- a part of a kept heap lies there too -/
theorem HR.sub {E : Em} {h g : Hp} {w : World} (H : HR E h w) (hs : ∀ b o, g b = some o → h b = some o) : HR E g w :=
  ⟨fun b o hb => H.here b o (hs b o hb), fun b c o o' e e' hb hc => H.inj b c o o' e e' (hs b o hb) (hs c o' hc)⟩

/-- what a run from (E, h, w) to (E', h', w') that makes the names from n to n' and touches the names of l may change -/
structure Tx (E : Em) (h : Hp) (w : World) (n : Nat) (E' : Em) (h' : Hp) (w' : World) (n' : Nat) (l : List Nat) : Prop where
  le : n ≤ n'
  ext : Ext E E'
  dom : ∀ b e, E' b = some e → E b = some e ∨ (n ≤ b ∧ b < n')
  hr : HR E' h' w'
  keep : ∀ b, b < n ∨ n' ≤ b → b ∉ l → h' b = h b
  domle : ∀ b o, h' b = some o → (∃ o', h b = some o') ∨ (n ≤ b ∧ b < n')
  news : ∀ b o e, n ≤ b → b < n' → h' b = some o → E' b = some e → w.heap.size ≤ e.blk ∨ ∃ c o' e', h c = some o' ∧ E c = some e' ∧ e'.blk = e.blk
  frame : ∀ k, k < w.heap.size → (∀ b o e, h b = some o → E b = some e → e.blk ≠ k) → w'.heap[k]? = w.heap[k]?
  size : w.heap.size ≤ w'.heap.size
  os : w'.os = w.os
  tape : w'.tape = w.tape
  output : w'.output = w.output

theorem Tx.refl {E : Em} {h : Hp} {w : World} (n : Nat) (H : HR E h w) : Tx E h w n E h w n [] :=
  ⟨Nat.le_refl _, .refl E, fun _ _ h => .inl h, H, fun _ _ _ => rfl, fun _ o h => .inl ⟨o, h⟩, fun _ _ _ h1 h2 => absurd (Nat.lt_of_le_of_lt h1 h2) (Nat.lt_irrefl _), fun _ _ _ => rfl, Nat.le_refl _, rfl, rfl, rfl⟩

theorem Tx.trans {E E1 E2 : Em} {h h1 h2 : Hp} {w w1 w2 : World} {n n1 n2 : Nat} {l l1 : List Nat}
    (A : Tx E h w n E1 h1 w1 n1 l) (B : Tx E1 h1 w1 n1 E2 h2 w2 n2 l1) : Tx E h w n E2 h2 w2 n2 (l1 ++ l) := by
  have le1 := A.le
  have le2 := B.le
  refine ⟨Nat.le_trans A.le B.le, A.ext.trans B.ext, ?_, B.hr, ?_, ?_, ?_, ?_, Nat.le_trans A.size B.size, B.os.trans A.os, B.tape.trans A.tape, B.output.trans A.output⟩
  · intro b e hb
    rcases B.dom b e hb with hb | hb
    · rcases A.dom b e hb with hb | hb
      · exact .inl hb
      · exact .inr ⟨hb.1, by omega⟩
    · exact .inr ⟨by omega, hb.2⟩
  · intro b hb hl
    simp only [List.mem_append, not_or] at hl
    rw [B.keep b (by omega) hl.1, A.keep b (by omega) hl.2]
  · intro b o hb
    rcases B.domle b o hb with ⟨o', hb⟩ | hb
    · rcases A.domle b o' hb with hb | hb
      · exact .inl hb
      · exact .inr ⟨hb.1, by omega⟩
    · exact .inr ⟨by omega, hb.2⟩
  · intro b o e hb0 hb1 hb he
    by_cases hlt : b < n1
    · rcases B.domle b o hb with ⟨o', ho'⟩ | hx
      · rcases B.dom b e he with he1 | hx
        · exact A.news b o' e hb0 hlt ho' he1
        · omega
      · omega
    · rcases B.news b o e (by omega) hb1 hb he with hx | ⟨c, o', e', hc, hec, hblk⟩
      · exact .inl (Nat.le_trans A.size hx)
      · by_cases hcn : n ≤ c ∧ c < n1
        · rcases A.news c o' e' hcn.1 hcn.2 hc hec with hx | ⟨c', o'', e'', h1, h2, h3⟩
          · exact .inl (hblk ▸ hx)
          · exact .inr ⟨c', o'', e'', h1, h2, h3.trans hblk⟩
        · rcases A.domle c o' hc with ⟨o'', hc'⟩ | hx
          · rcases A.dom c e' hec with hec' | hx
            · exact .inr ⟨c, o'', e', hc', hec', hblk⟩
            · exact absurd hx hcn
          · exact absurd hx hcn
  · intro k hk hkk
    rw [B.frame k (Nat.lt_of_lt_of_le hk A.size) ?_, A.frame k hk hkk]
    intro b o e hb he hblk
    by_cases hbn : n ≤ b ∧ b < n1
    · rcases A.news b o e hbn.1 hbn.2 hb he with hx | ⟨c, o', e', h1', h2', h3'⟩
      · omega
      · exact hkk c o' e' h1' h2' (h3'.trans hblk)
    · rcases A.domle b o hb with ⟨o', hb'⟩ | hx
      · rcases A.dom b e he with he' | hx
        · exact hkk b o' e hb' he' hblk
        · exact hbn hx
      · exact hbn hx

/-- another count of draws -/
theorem HR.world {E : Em} {h : Hp} {w w' : World} (H : HR E h w) (hw : w'.heap = w.heap) : HR E h w' :=
  ⟨fun b o hb => by rw [hw]; exact H.here b o hb, H.inj⟩
theorem Tx.drewR {E E' : Em} {h h' : Hp} {w w' : World} {n n' : Nat} {l : List Nat} (A : Tx E h w n E' h' w' n' l) (d : Nat) : Tx E h w n E' h' { w' with drawn := d } n' l :=
  ⟨A.le, A.ext, A.dom, A.hr.world rfl, A.keep, A.domle, A.news, A.frame, A.size, A.os, A.tape, A.output⟩
theorem Tx.drewL {E E' : Em} {h h' : Hp} {w w' : World} {n n' : Nat} {l : List Nat} {d : Nat} (A : Tx E h { w with drawn := d } n E' h' w' n' l) : Tx E h w n E' h' w' n' l :=
  ⟨A.le, A.ext, A.dom, A.hr, A.keep, A.domle, A.news, A.frame, A.size, A.os, A.tape, A.output⟩
theorem Tx.weaken {E E' : Em} {h h' : Hp} {w w' : World} {n n' : Nat} {l l' : List Nat} (A : Tx E h w n E' h' w' n' l) (hl : ∀ b ∈ l, b ∈ l') : Tx E h w n E' h' w' n' l' :=
  ⟨A.le, A.ext, A.dom, A.hr, fun b hb hn => A.keep b hb fun hx => hn (hl b hx), A.domle, A.news, A.frame, A.size, A.os, A.tape, A.output⟩

def upd (h : Hp) (n : Nat) (o : Option AObj) : Hp := fun b => if b = n then o else h b
def updE (E : Em) (n : Nat) (e : Emb) : Em := fun b => if b = n then some e else E b
theorem updE_ext {E : Em} {n : Nat} {e : Emb} (hn : E n = none) : Ext E (updE E n e) := by
  intro b e' hb
  unfold updE
  split
  · rename_i hx; subst hx; rw [hn] at hb; cases hb
  · exact hb

/-- a new object in a new block -/
theorem Tx.new {E : Em} {h : Hp} {w : World} {n : Nat} (H : HR E h w) (hn : E n = none) {e : Emb} (he : e.blk = w.heap.size) {a : AObj} {o : Obj} (ho : OR E e a (some o)) :
    Tx E h w n (updE E n e) (upd h n (some a)) { w with heap := w.heap.push o } (n + 1) [] := by
  have hext : Ext E (updE E n e) := updE_ext hn
  have hold : ∀ b o' e', h b = some o' → E b = some e' → e'.blk < w.heap.size := fun b o' e' hb hb' => H.lt hb hb'
  have hhn : ∀ o', h n ≠ some o' := fun o' hx => by obtain ⟨e', he', _⟩ := H.here n o' hx; rw [hn] at he'; cases he'
  refine ⟨Nat.le_succ n, hext, ?_, ⟨?_, ?_⟩, ?_, ?_, ?_, ?_, by simp, rfl, rfl, rfl⟩
  · intro b e' hb
    unfold updE at hb
    split at hb
    · exact .inr (by omega)
    · exact .inl hb
  · intro b o' hb
    unfold upd at hb
    split at hb
    · rename_i hx
      subst hx
      cases hb
      refine ⟨e, by simp [updE], ?_⟩
      rw [he]
      simpa using ho.ext hext
    · obtain ⟨e', he', ho'⟩ := H.here b o' hb
      refine ⟨e', hext _ _ he', ?_⟩
      have hlt := H.lt hb he'
      have : (w.heap.push o)[e'.blk]? = w.heap[e'.blk]? := by simp [Array.getElem?_push, Nat.ne_of_lt hlt]
      simp only [this]
      exact ho'.ext hext
  · intro b c o1 o2 e1 e2 hb hc he1 he2 hblk
    unfold upd at hb hc
    unfold updE at he1 he2
    split at hb <;> split at hc
    · omega
    · rename_i h1 h2
      rw [if_pos h1] at he1
      rw [if_neg h2] at he2
      cases he1
      have := hold c o2 e2 hc he2
      omega
    · rename_i h1 h2
      rw [if_neg h1] at he1
      rw [if_pos h2] at he2
      cases he2
      have := hold b o1 e1 hb he1
      omega
    · rename_i h1 h2
      rw [if_neg h1] at he1
      rw [if_neg h2] at he2
      exact H.inj b c o1 o2 e1 e2 hb hc he1 he2 hblk
  · intro b hb _
    unfold upd
    rw [if_neg (by omega)]
  · intro b o' hb
    unfold upd at hb
    split at hb
    · exact .inr (by omega)
    · exact .inl ⟨o', hb⟩
  · intro b o' e' h1 h2 _ he'
    have : b = n := by omega
    subst this
    simp [updE] at he'
    subst he'
    exact .inl (by omega)
  · intro k hk _
    simp [Array.getElem?_push, Nat.ne_of_lt hk]

/-- the object of a name is put anew, in its block -/
theorem Tx.put {E : Em} {h : Hp} {w : World} {n b : Nat} (H : HR E h w) {e : Emb} (he : E b = some e) {a0 a : AObj} (hb : h b = some a0) {o : Obj} (ho : OR E e a (some o)) :
    Tx E h w n E (upd h b (some a)) { w with heap := w.heap.setIfInBounds e.blk o } n [b] := by
  have hlt := H.lt hb he
  refine ⟨Nat.le_refl n, .refl E, fun _ _ h => .inl h, ⟨?_, ?_⟩, ?_, ?_, fun _ _ _ h1 h2 => absurd (Nat.lt_of_le_of_lt h1 h2) (Nat.lt_irrefl _), ?_, by simp, rfl, rfl, rfl⟩
  · intro c o' hc
    unfold upd at hc
    split at hc
    · rename_i hx
      subst hx
      cases hc
      exact ⟨e, he, by simpa [hlt] using ho⟩
    · rename_i hx
      obtain ⟨e', he', ho'⟩ := H.here c o' hc
      refine ⟨e', he', ?_⟩
      have hne : e.blk ≠ e'.blk := fun hq => hx (H.inj c b o' a0 e' e hc hb he' he hq.symm)
      simpa [Array.getElem?_setIfInBounds_ne hne] using ho'
  · intro c d o1 o2 e1 e2 hc hd he1 he2 hblk
    unfold upd at hc hd
    have key : ∀ c o1, (if c = b then some a else h c) = some o1 → ∃ o, h c = some o := by
      intro c o1 hc
      by_cases hx : c = b
      · exact ⟨a0, by rw [hx]; exact hb⟩
      · rw [if_neg hx] at hc; exact ⟨_, hc⟩
    have hc' := key c o1 hc
    have hd' := key d o2 hd
    obtain ⟨o3, h3⟩ := hc'
    obtain ⟨o4, h4⟩ := hd'
    exact H.inj c d o3 o4 e1 e2 h3 h4 he1 he2 hblk
  · intro c _ hc
    unfold upd
    rw [if_neg (by simpa using hc)]
  · intro c o' hc
    unfold upd at hc
    split at hc
    · rename_i hx; exact .inl ⟨a0, by rw [hx]; exact hb⟩
    · exact .inl ⟨o', hc⟩
  · intro k _ hkk
    exact Array.getElem?_setIfInBounds_ne (hkk b a0 e hb he)

/-- the object of a name is taken over by a new name, in the same block -/
theorem Tx.take {E : Em} {h : Hp} {w : World} {n b : Nat} (H : HR E h w) (hn : E n = none) {e : Emb} (he : E b = some e) {a0 a : AObj} (hb : h b = some a0) {o : Obj} (ho : OR E e a (some o)) :
    Tx E h w n (updE E n e) (upd (upd h b none) n (some a)) { w with heap := w.heap.setIfInBounds e.blk o } (n + 1) [b] := by
  have hext : Ext E (updE E n e) := updE_ext hn
  have hlt := H.lt hb he
  have hbn : b ≠ n := fun hx => by subst hx; rw [hn] at he; cases he
  refine ⟨Nat.le_succ n, hext, ?_, ⟨?_, ?_⟩, ?_, ?_, ?_, ?_, by simp, rfl, rfl, rfl⟩
  · intro c e' hc
    unfold updE at hc
    split at hc
    · exact .inr (by omega)
    · exact .inl hc
  · intro c o' hc
    unfold upd at hc
    split at hc
    · rename_i hx
      subst hx
      cases hc
      refine ⟨e, by simp [updE], ?_⟩
      simpa [hlt] using ho.ext hext
    · split at hc
      · cases hc
      · rename_i _ hx
        obtain ⟨e', he', ho'⟩ := H.here c o' hc
        refine ⟨e', hext _ _ he', ?_⟩
        have hne : e.blk ≠ e'.blk := fun hq => hx (H.inj c b o' a0 e' e hc hb he' he hq.symm)
        simpa [Array.getElem?_setIfInBounds_ne hne] using ho'.ext hext
  · have key : ∀ c o1 e1, upd (upd h b none) n (some a) c = some o1 → updE E n e c = some e1 → c ≠ n → c ≠ b ∧ h c = some o1 ∧ E c = some e1 := by
      intro c o1 e1 hc hec hcn
      unfold upd at hc
      rw [if_neg hcn] at hc
      unfold updE at hec
      rw [if_neg hcn] at hec
      split at hc
      · cases hc
      · rename_i hx; exact ⟨hx, hc, hec⟩
    intro c d o1 o2 e1 e2 hc hd he1 he2 hblk
    by_cases hcn : c = n
    · by_cases hdn : d = n
      · omega
      · obtain ⟨k1, k2, k3⟩ := key d o2 e2 hd he2 hdn
        subst hcn
        simp [updE] at he1
        subst he1
        exact absurd (H.inj b d a0 o2 e e2 hb k2 he k3 hblk).symm k1
    · obtain ⟨k1, k2, k3⟩ := key c o1 e1 hc he1 hcn
      by_cases hdn : d = n
      · subst hdn
        simp [updE] at he2
        subst he2
        exact absurd (H.inj c b o1 a0 e1 e k2 hb k3 he hblk) k1
      · obtain ⟨_, m2, m3⟩ := key d o2 e2 hd he2 hdn
        exact H.inj c d o1 o2 e1 e2 k2 m2 k3 m3 hblk
  · intro c hc hcl
    unfold upd
    rw [if_neg (by omega), if_neg (by simpa using hcl)]
  · intro c o' hc
    unfold upd at hc
    split at hc
    · exact .inr (by omega)
    · split at hc
      · cases hc
      · exact .inl ⟨o', hc⟩
  · intro c o' e' h1 h2 _ he'
    have : c = n := by omega
    subst this
    simp [updE] at he'
    subst he'
    exact .inr ⟨b, a0, e, hb, he, rfl⟩
  · intro k _ hkk
    exact Array.getElem?_setIfInBounds_ne (hkk b a0 e hb he)
end Go.Proofs.YtcnclcfglfgjlaaGreatDoor.Cx
