/- A machine that runs a program's code on written inputs by computation alone, part 22: all codes; what the machine computes is what a call does. The program's draws must follow the mixed orders. -/
import Derived.Test.YtcnclcfglfgjlaaGreatDoorCxDrawn3
namespace Go.Proofs.YtcnclcfglfgjlaaGreatDoor.Cx
open Go

section
variable {P : Program} {G : Gl} {rec : Rec} {ops : Array Oper} {anc : List Nat} {st : Nat → DS} {E0 : Em} {w0 : World} {L : List Nat}
theorem ancOk1_spec {k : Nat} {o : Oper} (h : ancOk1 anc k o = true) : (∀ e ∈ o.after, Region.binds .any e = true → e.on < k) ∧
    ∀ j, j < k → isAnc anc j k = true → ∃ e ∈ o.after, Region.binds .any e = true ∧ (e.on = j ∨ (isAnc anc j e.on = true ∧ j < e.on)) := by
  unfold ancOk1 at h
  rw [Bool.and_eq_true] at h
  obtain ⟨h1, h2⟩ := h
  rw [List.all_eq_true] at h1 h2
  refine ⟨fun e he hb => ?_, fun j hj ha => ?_⟩
  · have := h1 e (by simpa using he)
    rw [hb] at this
    simpa [Nat.blt_eq] using this
  · have := h2 j (List.mem_range.2 hj)
    rw [ha] at this
    simp only [Bool.not_true, Bool.false_or] at this
    rw [List.any_eq_true] at this
    obtain ⟨e, he, h3⟩ := this
    rw [Bool.and_eq_true, Bool.or_eq_true, Bool.and_eq_true, Nat.blt_eq] at h3
    refine ⟨e, by simpa using he, h3.1, ?_⟩
    rcases h3.2 with h4 | h4
    · exact .inl (beq_eq h4)
    · exact .inr h4
theorem inv_all {D : Nat → Bool} {E : Em} {a : Act} {w : World} (J : Inv ops st E0 w0 L D E a w) (h : ∀ i, i < ops.size → D i = true) : Inv ops st E0 w0 L (fun _ => true) E a w := by
  have h1 : mixH ops st D = mixH ops st (fun _ => true) := funext fun b => mix_low ops.size fun i hi _ => h i hi
  have h2 : mixT ops st D = mixT ops st (fun _ => true) := funext fun b => mix_low ops.size fun i hi _ => h i hi
  exact ⟨by rw [← h1]; exact J.tx, J.size, by rw [← h2]; exact J.get, J.defers, fun k _ hk => by cases hk⟩
theorem getD_size {listed : Array Bool} {k : Nat} (h : k < listed.size) (b c : Bool) : listed.getD k b = listed.getD k c := by
  simp [Array.getD_eq_getD_getElem?, h]
theorem drawn_wp (Z : Line P G rec ops anc st) (I : Root G ops st E0 w0 L) {Q : Exit → Act → World → Prop} (hQ : ∀ E a w, Inv ops st E0 w0 L (fun _ => true) E a w → Q .normal a w) :
    ∀ (fuel : Nat) (listed : Array Bool) (E : Em) (a : Act) (w : World), listed.size = ops.size → (∀ k j, j < k → listed.getD k false = true → isAnc anc j k = true → listed.getD j false = true) →
      (List.range ops.size).countP (fun i => !listed.getD i false) ≤ fuel → Inv ops st E0 w0 L (fun i => listed.getD i false) E a w → wpAny P .any ops Q fuel listed a w := by
  have allListed : ∀ (listed : Array Bool), listed.size = ops.size → Region.ready .any ops listed = [] → ∀ i, i < ops.size → listed.getD i false = true := by
    intro listed hs hr i
    induction i using Nat.strongRecOn with
    | _ i ih =>
      intro hi
      cases hd : listed.getD i false with
      | true => rfl
      | false =>
        exfalso
        obtain ⟨o, ho⟩ := op_at hi
        have : i ∈ Region.ready .any ops listed := mem_ready.2 ⟨by rw [getD_size (by omega) true false]; exact hd, o, ho, fun e he hb => by
          have := (ancOk1_spec (Z.ancs i o ho)).1 e he hb
          exact ih e.on this (by omega)⟩
        rw [hr] at this
        cases this
  intro fuel
  induction fuel with
  | zero =>
    intro listed E a w hs _ hc J
    have hall : ∀ i, i < ops.size → listed.getD i false = true := by
      intro i hi
      cases hd : listed.getD i false with
      | true => rfl
      | false =>
        exfalso
        have : 0 < (List.range ops.size).countP (fun i => !listed.getD i false) := List.countP_pos_iff.2 ⟨i, List.mem_range.2 hi, by simp only [hd]; rfl⟩
        omega
    refine ⟨?_, hQ E a w (inv_all J hall)⟩
    cases hr : Region.ready .any ops listed with
    | nil => rfl
    | cons i r =>
      exfalso
      have : i ∈ Region.ready .any ops listed := by rw [hr]; simp
      obtain ⟨h1, o, ho, _⟩ := mem_ready.1 this
      have hi : i < ops.size := (Array.getElem?_eq_some_iff.1 ho).1
      rw [getD_size (by omega) true false, hall i hi] at h1
      cases h1
  | succ fuel ih =>
    intro listed E a w hs hcl hc J
    refine ⟨fun hr => hQ E a w (inv_all J (allListed listed hs hr)), fun k hk => ?_⟩
    obtain ⟨h1, o, ho, h2⟩ := mem_ready.1 hk
    have hkn : k < ops.size := (Array.getElem?_eq_some_iff.1 ho).1
    have hDk : listed.getD k false = false := by rw [getD_size (by omega) false true]; exact h1
    obtain ⟨_, hanc⟩ := ancOk1_spec (Z.ancs k o ho)
    have mine : ∀ j, j < k → isAnc anc j k = true → listed.getD j false = true := by
      intro j hj ha
      obtain ⟨e, he, hb, h3⟩ := hanc j hj ha
      have h4 := h2 e he hb
      rcases h3 with rfl | ⟨h3, h5⟩
      · exact h4
      · exact hcl e.on j h5 h4 h3
    have C : Closed anc (fun i => listed.getD i false) k := ⟨hDk, mine, fun i hDi hki => by
      cases ha : isAnc anc k i with
      | false => rfl
      | true => rw [hcl i k hki hDi ha] at hDk; cases hDk⟩
    have hset : ∀ i, i ≠ k → (listed.setIfInBounds k true).getD i false = listed.getD i false := fun i hi => getD_set_ne false (Ne.symm hi)
    have hsetk : (listed.setIfInBounds k true).getD k false = true := by simp [hs, hkn]
    refine inv_step Z I ho C (D' := fun i => (listed.setIfInBounds k true).getD i false) hsetk hset J fun E' a' w' J' => ih _ E' a' w' (by simp [hs]) ?_ ?_ J'
    · intro i j hj hi ha
      by_cases hik : i = k
      · subst hik
        rw [hset j (by omega)]
        exact mine j hj ha
      · rw [hset i hik] at hi
        by_cases hjk : j = k
        · subst hjk; exact hsetk
        · rw [hset j hjk]
          exact hcl i j hj hi ha
    · have := count_less (p := fun i => !listed.getD i false) (q := fun i => !(listed.setIfInBounds k true).getD i false) (i := k) ?_ ?_ ?_ (List.range ops.size) (List.mem_range.2 hkn)
      · omega
      · intro j hj
        by_cases hjk : j = k
        · subst hjk; simp only [hsetk] at hj; cases hj
        · simpa only [hset j hjk] using hj
      · simp only [hDk]; rfl
      · simp only [hsetk]; rfl
theorem runDrawn_line (R : Good P G rec) {f f' : AF} {s s' : HS} (h : runDrawn P G rec ops anc f s = some (f', s')) : ∃ st : Nat → DS, Line P G rec ops anc st ∧ (st 0).f = f ∧ (st 0).s = s ∧ (st ops.size).f = f' ∧ (st ops.size).s = s' := by
  unfold runDrawn at h
  split at h
  · cases h
  · rename_i hs
    split at h
    · rename_i d hd
      cases h
      obtain ⟨st, s0, sn, hst⟩ := drawnGo_states _ 0 _ _ hd
      have hstat := statOk_spec _ 0 hs
      refine ⟨st, ⟨R, fun k o ho => drawn1_one R ?_, by rw [s0], fun k o ho => ?_, fun k o ho => ?_⟩, by rw [s0], by rw [s0], ?_, ?_⟩
      · have := hst k o (by simpa using ho)
        rwa [Nat.zero_add] at this
      · have := (hstat k o (by simpa using ho)).1
        rwa [Nat.zero_add] at this
      · have := (hstat k o (by simpa using ho)).2
        rwa [Nat.zero_add] at this
      · rw [← sn]; simp
      · rw [← sn]; simp
    · cases h
theorem Line.keeps (Z : Line P G rec ops anc st) : ∀ k, k ≤ ops.size → ∃ l, Keeps (st 0).s (st k).s l
  | 0, _ => ⟨[], Keeps.refl _⟩
  | k + 1, hk => by
    obtain ⟨l, K⟩ := Z.keeps k (by omega)
    obtain ⟨o, ho⟩ := op_at (ops := ops) (k := k) (by omega)
    cases Z.one k o ho with
    | off _ _ h1 _ => rw [h1]; exact ⟨l, K⟩
    | val _ _ _ _ _ h1 _ => rw [h1]; exact ⟨l, K⟩
    | heap v t rem nms _ _ H =>
      refine ⟨_, K.trans (t := (st k).s) (m := t.log) ⟨Z.next1 (by omega), H.log, fun b hb hl => H.keep b fun hn => ?_⟩⟩
      rw [H.next] at hb
      rcases (H.names b).1 hn with h | h
      · omega
      · exact hl h
theorem runDrawn_wp (hm : P.follows .mixedOrders = true) (R : Good P G rec) {f f' : AF} {s s' : HS} (h : runDrawn P G rec ops anc f s = some (f', s')) {l : List Nat} (hl : s'.log = l ++ s.log) {E : Em} {w : World} {a : Act} {id : Nat}
    (H : HR E s.at w) (T : TR E f a) (LG : GL E G) (D : DR E f.defers a.defers) (F : Fresh E s.next s'.next) : (Code.region id ops true).wp P (Post E s w .normal f' s' l) a w := by
  obtain ⟨st, Z, rfl, rfl, rfl, rfl⟩ := runDrawn_line R h
  have I : Root G ops st E { w with drawn := w.drawn + 1 } l := ⟨H.world rfl, LG, F, hl⟩
  refine wp_region_any hm (drawn_wp Z I ?_ ops.size _ E a _ (by simp) ?_ ?_ ?_)
  · intro E' a' w' J
    refine ⟨rfl, E', ?_, ⟨?_, ?_⟩, ?_⟩
    · have h1 : mixH ops st (fun _ => true) = (st ops.size).s.at := funext fun b => (Z.heap b ops.size (Nat.le_refl _)).symm
      have := J.tx
      rw [h1] at this
      exact this.drewL
    · rw [J.size, (Z.frame ops.size (Nat.le_refl _)).1]
    · intro t
      rw [Z.tmps t ops.size (Nat.le_refl _)]
      exact J.get t
    · rw [(Z.frame ops.size (Nat.le_refl _)).2]
      exact J.defers
  · intro k j _ hk _
    exfalso
    rw [Array.getD_eq_getD_getElem?, Array.getElem?_replicate] at hk
    split at hk <;> cases hk
  · exact Nat.le_trans List.countP_le_length (by simp)
  · have hD : (fun i => (Array.replicate ops.size false).getD i false) = fun _ => false := by
      funext i
      rw [Array.getD_eq_getD_getElem?, Array.getElem?_replicate]
      split <;> rfl
    rw [hD]
    have h1 : mixH ops st (fun _ => false) = (st 0).s.at := funext fun b => mix_none ops.size
    have h2 : mixT ops st (fun _ => false) = (st 0).f.get := funext fun b => mix_none ops.size
    refine ⟨?_, T.size, fun t => by rw [h2]; exact T.get t, D, fun k hk _ => ?_⟩
    · rw [h1]
      have H' : HR E (st 0).s.at { w with drawn := w.drawn + 1 } := H.world rfl
      exact (Tx.wide H' (Z.next (i := 0) ops.size (Nat.zero_le _) (Nat.le_refl _))).weaken fun b hb => by cases hb
    · exact F.sub (Z.next (i := 0) k (by omega) (by omega)) (Z.next (i := k + 1) ops.size (by omega) (Nat.le_refl _))
end
end Go.Proofs.YtcnclcfglfgjlaaGreatDoor.Cx
