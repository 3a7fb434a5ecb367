/- A machine that runs a program's code on written inputs by computation alone, part 23: what the machine computes of a function is what a call of it does. The program's draws must follow the mixed orders. -/
import Derived.Test.YtcnclcfglfgjlaaGreatDoorCxRun
namespace Go.Proofs.YtcnclcfglfgjlaaGreatDoor.Cx
open Go

section
variable {P : Program} {G : Gl} {rec : Rec}
theorem iter_keeps (R : Good P G rec) {c : Code} : ∀ (n : Nat) (f f' : AF) (s s' : HS) (x : AX), iter rec c n f s = some (x, f', s') → ∃ l, Keeps s s' l
  | 0, f, f', s, s', x, h => by cases h
  | n + 1, f, f', s, s', x, h => by
    unfold iter at h
    split at h
    · rename_i f1 s1 hr
      obtain ⟨l1, k1⟩ := R.keep hr
      obtain ⟨l2, k2⟩ := iter_keeps R n _ _ _ _ _ h
      exact ⟨_, k1.trans k2⟩
    · rename_i hr; cases h; exact R.keep hr
    · rename_i hr; cases h; exact R.keep hr
    · cases h
theorem iter_wp (R : Good P G rec) {c : Code} : ∀ (n : Nat) (f f' : AF) (s s' : HS) (x : AX), iter rec c n f s = some (x, f', s') → ∀ (l : List Nat), s'.log = l ++ s.log → ∀ {E : Em} {w : World} {a : Act},
    HR E s.at w → TR E f a → GL E G → DR E f.defers a.defers → Fresh E s.next s'.next →
      ∀ (b : Frame) (k : List Item) (cs : List Frame), ∃ e a' w', Post E s w x f' s' l e a' w' ∧ Arrives P (lone (b.at a (.code c :: .inLoop c :: k)) cs w) b k cs e a' w'
  | 0, f, f', s, s', x, h => by cases h
  | n + 1, f, f', s, s', x, h => by
    intro l hl E w a H T L D F b k cs
    unfold iter at h
    split at h
    · rename_i f1 s1 hr
      obtain ⟨l1, k1⟩ := R.keep hr
      obtain ⟨l2, k2⟩ := iter_keeps R n _ _ _ _ _ h
      have hll : l = l2 ++ l1 := cancel (c := s.log) (by rw [← hl, k2.log, k1.log, List.append_assoc])
      subst hll
      obtain ⟨e, a1, w1, ⟨rfl, E1, T1, hT1, hD1⟩, harr⟩ := R.wp hr k1.log H T L D (F.sub (Nat.le_refl _) k2.le) b (.inLoop c :: k) cs
      obtain ⟨e2, a2, w2, ⟨he2, E2, T2, hT2, hD2⟩, harr2⟩ := iter_wp R n _ _ _ _ _ h _ k2.log T1.hr hT1 (L.ext T1.ext) hD1 (F.after T1) b k cs
      exact ⟨e2, a2, w2, ⟨he2, E2, T1.trans T2, hT2, hD2⟩, .of_steps (Steps.trans harr (.one step_inLoop)) harr2⟩
    · rename_i i f1 s1 hr
      cases h
      obtain ⟨e, a1, w1, ⟨rfl, hp⟩, harr⟩ := R.wp hr hl H T L D F b (.inLoop c :: k) cs
      exact ⟨_, a1, w1, ⟨rfl, hp⟩, .pass (x := .inLoop c) rfl (fun _ _ => .inl (by simp [AX.out])) harr⟩
    · rename_i f1 s1 hr
      cases h
      obtain ⟨e, a1, w1, ⟨rfl, hp⟩, harr⟩ := R.wp hr hl H T L D F b (.inLoop c :: k) cs
      exact ⟨_, a1, w1, ⟨rfl, hp⟩, .pass (x := .inLoop c) rfl (fun _ _ => .inl (by simp [AX.out])) harr⟩
    · cases h
theorem Post.refl {E : Em} {s : HS} {w : World} {f : AF} {l : List Nat} {a : Act} (hl : s.log = l ++ s.log) (H : HR E s.at w) (T : TR E f a) (D : DR E f.defers a.defers) (x : AX) : Post E s w x f s l x.out a w := by
  have : l = [] := cancel (c := s.log) (by rw [← hl]; rfl)
  subst this
  exact ⟨rfl, E, Tx.refl _ H, T, D⟩
theorem step_good (hm : P.follows .mixedOrders = true) (n : Nat) (R : Good P G rec) : Good P G (step P G n rec) := by
  refine ⟨R.known, ?_, ?_⟩
  · intro c f s x f' s' h
    unfold step at h
    split at h
    · cases h; exact ⟨[], Keeps.refl _⟩
    · cases h; exact ⟨[], Keeps.refl _⟩
    · split at h
      · rename_i hr; cases h; exact runOps_keeps R _ _ _ _ _ hr
      · cases h
    · split at h
      · rename_i hr
        cases h
        obtain ⟨st, Z, rfl, rfl, rfl, rfl⟩ := runDrawn_line R hr
        exact Z.keeps _ (Nat.le_refl _)
      · cases h
    · split at h
      · rename_i hr
        obtain ⟨l1, k1⟩ := R.keep hr
        obtain ⟨l2, k2⟩ := R.keep h
        exact ⟨_, k1.trans k2⟩
      · rename_i hr; cases h; exact R.keep hr
      · rename_i hr; cases h; exact R.keep hr
      · cases h
    · split at h
      · exact R.keep h
      · exact R.keep h
      · cases h
    · split at h
      · rename_i hr
        split at h
        · cases h; exact R.keep hr
        · cases h; exact R.keep hr
      · rename_i hr; cases h; exact R.keep hr
      · rename_i hr; cases h; exact R.keep hr
      · cases h
    · exact iter_keeps R _ _ _ _ _ _ h
    · cases h; exact ⟨[], Keeps.refl _⟩
    · cases h; exact ⟨[], Keeps.refl _⟩
    · cases h
  · intro c f s x f' s' h l hl E w a H T L D F
    unfold step at h
    split at h
    · cases h; exact wp_skip (Post.refl hl H T D .normal)
    · cases h; exact wp_label (Post.refl hl H T D .normal)
    · rename_i id ops
      split at h
      · rename_i f1 s1 hr
        cases h
        refine wp_region ?_
        have := runOps_wp R (ops := ops) (Q := Post E s w .normal f' s' l) ops.toList 0 f f' s s' a E w l rfl hr hl H T L D F fun a' w' E' T' hT hD => ⟨rfl, E', T', hT, hD⟩
        simpa [List.range_eq_range'] using this
      · cases h
    · split at h
      · rename_i f1 s1 hr
        cases h
        exact runDrawn_wp hm R hr hl H T L D F
      · cases h
    · rename_i c1 c2
      split at h
      · rename_i f1 s1 hr
        obtain ⟨l1, k1⟩ := R.keep hr
        obtain ⟨l2, k2⟩ := R.keep h
        have hll : l = l2 ++ l1 := cancel (c := s.log) (by rw [← hl, k2.log, k1.log, List.append_assoc])
        subst hll
        refine wp_seq (wp_mono (R.wp hr k1.log H T L D (F.sub (Nat.le_refl _) k2.le)) ?_)
        rintro e a1 w1 ⟨rfl, E1, T1, hT1, hD1⟩
        refine wp_mono (R.wp h k2.log T1.hr hT1 (L.ext T1.ext) hD1 (F.after T1)) ?_
        rintro e a2 w2 ⟨rfl, E2, T2, hT2, hD2⟩
        exact ⟨rfl, E2, T1.trans T2, hT2, hD2⟩
      · rename_i i f1 s1 hr
        cases h
        refine wp_seq (wp_mono (R.wp hr hl H T L D F) ?_)
        rintro e a1 w1 ⟨rfl, hp⟩
        exact ⟨rfl, hp⟩
      · rename_i f1 s1 hr
        cases h
        refine wp_seq (wp_mono (R.wp hr hl H T L D F) ?_)
        rintro e a1 w1 ⟨rfl, hp⟩
        exact ⟨rfl, hp⟩
      · cases h
    · rename_i c0 c1 c2
      split at h
      · rename_i hok hb
        have := ev_rel T L hok
        rw [hb] at this
        exact wp_cond (bool_inv this) (R.wp h hl H T L D F)
      · rename_i hok hb
        have := ev_rel T L hok
        rw [hb] at this
        exact wp_cond (bool_inv this) (R.wp h hl H T L D F)
      · cases h
    · rename_i id c1
      split at h
      · rename_i i f1 s1 hr
        split at h
        · rename_i hi
          cases h
          refine wp_block (wp_mono (R.wp hr hl H T L D F) ?_)
          rintro e a1 w1 ⟨rfl, hp⟩
          simp only [AX.out, Exit.inBlock, beq_eq hi, if_true]
          exact ⟨rfl, hp⟩
        · rename_i hi
          cases h
          refine wp_block (wp_mono (R.wp hr hl H T L D F) ?_)
          rintro e a1 w1 ⟨rfl, hp⟩
          simp only [AX.out, Exit.inBlock, beq_ne hi, if_false]
          exact ⟨rfl, hp⟩
      · rename_i f1 s1 hr
        cases h
        refine wp_block (wp_mono (R.wp hr hl H T L D F) ?_)
        rintro e a1 w1 ⟨rfl, hp⟩
        exact ⟨rfl, hp⟩
      · rename_i f1 s1 hr
        cases h
        refine wp_block (wp_mono (R.wp hr hl H T L D F) ?_)
        rintro e a1 w1 ⟨rfl, hp⟩
        exact ⟨rfl, hp⟩
      · cases h
    · rename_i c1
      intro b k cs
      obtain ⟨e, a', w', hq, harr⟩ := iter_wp R n f f' s s' x h l hl H T L D F b k cs
      exact ⟨e, a', w', hq, .of_steps (.one step_loop) harr⟩
    · cases h; exact wp_exit (Post.refl hl H T D (.exit _))
    · cases h; exact wp_ret (Post.refl hl H T D .ret)
    · cases h
theorem run_good (hm : P.follows .mixedOrders = true) (hK : ∀ x ∈ G.known, KOk P G.vars x ∧ x.n0 ≤ x.n1) : ∀ n, Good P G (run P G n)
  | 0 => by
    refine ⟨hK, ?_, ?_⟩
    · intro c f s x f' s' h; cases h
    · intro c f s x f' s' h; cases h
  | n + 1 => step_good hm n (run_good hm hK n)

/-- a run in less of the heap that it leaves -/
theorem Tx.shrink {E E' : Em} {h h' g' : Hp} {w w' : World} {n n' : Nat} {l : List Nat} (A : Tx E h w n E' h' w' n' l) (sub : ∀ b o, g' b = some o → h' b = some o) (old : ∀ b, b < n ∨ n' ≤ b → g' b = h b) :
    Tx E h w n E' g' w' n' [] :=
  ⟨A.le, A.ext, A.dom, A.hr.sub sub, fun b hb _ => old b hb, fun b o hb => A.domle b o (sub b o hb), fun b o e h1 h2 hb he => A.news b o e h1 h2 (sub b o hb) he, A.frame, A.size, A.os, A.tape, A.output⟩
/-- does the machine compute what a known call says? -/
def knows (P : Program) (G : Gl) (n : Nat) (x : Known) : Bool := match callF P G (run P G n) x.fn x.args ⟨setAll x.inH .leaf, x.n0, []⟩ with
  | some (v, s) => veq v x.v && (Nat.beq s.next x.n1 && (s.log.all (fun b => Nat.ble x.n0 b && Nat.blt b x.n1) && (x.outH.all (fun p => Nat.ble x.n0 p.1 && Nat.blt p.1 x.n1) && (x.inH.all (fun p => Nat.ble p.1 lim) && allIn s x.outH))))
  | none => false
theorem knows_ok (hm : P.follows .mixedOrders = true) (hK : ∀ x ∈ G.known, KOk P G.vars x ∧ x.n0 ≤ x.n1) {n : Nat} {x : Known} (h : knows P G n x = true) : KOk P G.vars x ∧ x.n0 ≤ x.n1 := by
  unfold knows at h
  split at h
  · rename_i v s hc
    simp only [Bool.and_eq_true] at h
    obtain ⟨h1, h2, h3, h4, h5, h6⟩ := h
    have R := run_good hm hK n
    have hv := veq_eq h1
    have hn : s.next = x.n1 := beq_eq h2
    have hin : (⟨setAll x.inH .leaf, x.n0, []⟩ : HS).at = look x.inH := by
      funext b
      unfold HS.at
      show (setAll x.inH .leaf).get b = _
      rw [setAll_get _ _ _ fun p hp => ble_le (List.all_eq_true.1 h5 p hp)]
      cases look x.inH b <;> rfl
    obtain ⟨l, K⟩ := callF_keeps R hc
    have hl : l = s.log := by have := K.log; simpa using this.symm
    subst hl
    have hle : x.n0 ≤ s.next := K.le
    refine ⟨?_, by omega⟩
    intro E w args' H ha L F
    have hall := fun p hp => List.all_eq_true.1 h4 p hp
    refine Calls.mono (callF_calls R hc (l := s.log) (by simp) (E := E) (w := w) (by rw [hin]; exact H) ha L (by rw [hn]; exact F)) ?_
    rintro e w' ⟨v', E', rfl, hvv, T⟩
    refine ⟨v', E', rfl, hv ▸ hvv, ?_⟩
    rw [hin] at T
    have T : Tx E (look x.inH) w x.n0 E' s.at w' s.next s.log := T
    rw [hn] at T
    have hlog : ∀ b ∈ s.log, x.n0 ≤ b ∧ b < x.n1 := fun b hb => by
      have := List.all_eq_true.1 h3 b hb
      simp only [Bool.and_eq_true, Nat.blt_eq] at this
      exact ⟨ble_le this.1, this.2⟩
    have hout : ∀ b o, look x.outH b = some o → x.n0 ≤ b ∧ b < x.n1 := fun b o hb => by
      have := hall _ (look_mem _ _ _ hb)
      simp only [Bool.and_eq_true, Nat.blt_eq] at this
      exact ⟨ble_le this.1, this.2⟩
    refine T.shrink ?_ ?_
    · intro b o hb
      unfold Known.out at hb
      cases ho : look x.outH b with
      | some o' =>
        rw [ho] at hb
        cases hb
        exact allIn_spec x.outH h6 (b, o) (look_mem x.outH b o ho)
      | none =>
        rw [ho] at hb
        have hb : look x.inH b = some o := hb
        obtain ⟨e, he, _⟩ := H.here b o hb
        have hbn : b < x.n0 ∨ x.n1 ≤ b := by
          rcases Nat.lt_or_ge b x.n0 with h | h
          · exact .inl h
          · rcases Nat.lt_or_ge b x.n1 with h' | h'
            · rw [F b h h'] at he; cases he
            · exact .inr h'
        rw [T.keep b hbn fun hx => by have := hlog b hx; omega]
        exact hb
    · intro b hb
      unfold Known.out
      cases ho : look x.outH b with
      | some o => have := hout b o ho; omega
      | none => rfl
  · cases h
/-- what a function does that is called with nothing kept: what the machine computes, and no block that was there is changed -/
theorem run_calls (hm : P.follows .mixedOrders = true) {K : List Known} (hK : ∀ x ∈ K, KOk P [] x ∧ x.n0 ≤ x.n1) {n g next : Nat} {args : List Value} {args' : Array Value} {v : Value} {s' : HS} (h : callF P ⟨[], K⟩ (run P ⟨[], K⟩ n) g args ⟨.leaf, next, []⟩ = some (v, s')) (hv : bare v = true)
    (ha : args' = args.toArray) (hb : ∀ x ∈ args, bare x = true) (w : World) : Calls P g args' w fun e w' => e = .returned v ∧ RowKit.Below w.heap.size w w' := by
  subst ha
  have R := run_good (G := ⟨[], K⟩) hm hK n
  have hat : ∀ b, (⟨.leaf, next, []⟩ : HS).at b = none := fun b => rfl
  refine Calls.mono (callF_calls R h (l := s'.log) (by simp) (E := fun _ => none) (w := w) ⟨fun b o hb => ?_, fun b c o o' e e' hb => ?_⟩ ?_ (fun g hg => by cases hg) (fun b _ _ => rfl)) ?_
  · rw [hat] at hb; cases hb
  · rw [hat] at hb; cases hb
  · have := LR.self (E := fun _ => none) fun x hx => bare_self x (hb x hx)
    simpa using this
  · rintro e w' ⟨v', E', rfl, hvv, T⟩
    obtain rfl := bare_eq hv hvv
    refine ⟨rfl, T.os, T.tape, T.output, T.size, fun k hk => T.frame k hk fun b o e hb => ?_⟩
    rw [hat] at hb
    cases hb
/-- the machine computes true -/
def wakes (P : Program) (K : List Known) (n g : Nat) : Bool := match callF P ⟨[], K⟩ (run P ⟨[], K⟩ n) g [] ⟨.leaf, 0, []⟩ with
  | some (.bool true, _) => true
  | _ => false
theorem wakes_calls (hm : P.follows .mixedOrders = true) {K : List Known} (hK : ∀ x ∈ K, KOk P [] x ∧ x.n0 ≤ x.n1) {n g : Nat} (h : wakes P K n g = true) (w : World) : Calls P g #[] w fun e w' => e = .returned (.bool true) ∧ RowKit.Below w.heap.size w w' := by
  unfold wakes at h
  split at h
  · rename_i s' hc
    exact run_calls hm hK hc rfl rfl (fun x hx => by cases hx) w
  · cases h
end
end Go.Proofs.YtcnclcfglfgjlaaGreatDoor.Cx
