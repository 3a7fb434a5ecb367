/- A machine that runs a program's code on written inputs by computation alone, part 16: deferred functions, calls, plain regions. No condition. -/
import Derived.Test.YtcnclcfglfgjlaaGreatDoorCxKnown
namespace Go.Proofs.YtcnclcfglfgjlaaGreatDoor.Cx
open Go

section
variable {P : Program} {G : Gl}
theorem ok_all {f : AF} {a : Act} {E : Em} (T : TR E f a) (L : GL E G) {o : Oper} (h : o.op.operands.all (okOp G) = true) : ∀ z ∈ o.op.operands, VR E (ev f z) (a.eval z) :=
  fun z hz => ev_rel T L (Array.all_eq_true_iff_forall_mem.1 h z hz)
theorem wanted_tr {ops : Array Oper} {f : AF} {a : Act} {E : Em} {o : Oper} (T : TR E f a) : Region.wanted o (yielded ops a.tmps) = wantedA ops f o := wantedA_eq fun _ _ t _ _ => T.get t

/-- a deferred function where nothing panics -/
theorem wpS_mono {c : Code} {Q Q' : Exit → Act → List Frame → World → Prop} {a : Act} {cs : List Frame} {w : World} (h : c.wpS P Q a cs w) (hq : ∀ e a cs w, Q e a cs w → Q' e a cs w) : c.wpS P Q' a cs w :=
  fun b k hb hr => let ⟨e, a', cs', w', q, r⟩ := h b k hb hr; ⟨e, a', cs', w', hq _ _ _ _ q, r⟩
theorem heapless_val {f : AF} {E : Em} {o : Oper} {a : Act} {v : Value} (T : TR E f a) (L : GL E G) (hok : o.op.operands.all (okOp G) = true) (h : heapless P f o = some v) :
    ∃ v', VR E v v' ∧ ∀ w, (execOp a.eval o).run P w = .ok (.value v') w := heapless_run h (ok_all T L hok)
theorem runOpsD_wp {ops : Array Oper} {E : Em} (L : GL E G) {Q : Exit → Act → List Frame → World → Prop} {cs : List Frame} (hcs : recoverD cs = none) {w : World} :
    ∀ (l : List Oper) (i : Nat) (f f' : AF) (a : Act), ops.toList.drop i = l → runOpsD P G ops l f = some f' → TR E f a → (∀ a', TR E f' a' → a'.defers = a.defers → f'.defers = f.defers → Q .normal a' cs w) →
      wpOpsS P ops Q (List.range' i l.length) a cs w
  | [], i, f, f', a, _, h, T, hQ => by
    cases h
    exact hQ a T rfl rfl
  | o :: l, i, f, f', a, hd, h, T, hQ => by
    have ho : ops[i]? = some o := by
      have := congrArg (·[0]?) hd
      simpa using this
    have hd' : ops.toList.drop (i + 1) = l := by
      have := congrArg List.tail hd
      simpa using this
    have next : ∀ (f1 : AF) (v v' : Value), f.putO o.dst v = some f1 → VR E v v' → runOpsD P G ops l f1 = some f' → wpOpsS P ops Q (List.range' (i + 1) l.length) (a.put o.dst v') cs w := by
      intro f1 v v' hp hv hr
      refine runOpsD_wp L hcs l (i + 1) f1 f' _ hd' hr (T.put hp hv) fun a' T' h1 h2 => hQ a' T' ?_ ?_
      · rw [h1, act_put_defers]
      · rw [h2, (AF.putO_spec hp).2.1]
    rw [List.length_cons, List.range'_succ]
    simp only [wpOpsS, ho, wanted_tr T]
    unfold runOpsD at h
    split at h
    · rename_i hw
      rw [hw]
      simp only [Bool.false_eq_true, if_false]
      split at h
      · rename_i f1 hp
        exact next f1 _ _ hp VR.undef h
      · cases h
    · rename_i hw
      rw [hw]
      simp only [if_true]
      split at h
      · cases h
      · rename_i hok
        split at h
        · cases h
        · rename_i v hv
          split at h
          · rename_i f1 hp
            unfold opD at hv
            split at hv
            · rename_i hrec
              cases hv
              have he : (execOp a.eval o).run P w = .ok .recover w := by
                obtain ⟨dst, op, type, pos, after, guard⟩ := o
                unfold isRecover at hrec
                simp only at hrec
                split at hrec
                · rfl
                · cases hrec
              simp only [he, hcs]
              exact next f1 _ _ hp .nilIface h
            · obtain ⟨v', h1, h2⟩ := heapless_val T L hok hv
              simp only [h2 w, Oper.upon]
              exact next f1 _ _ hp h1 h
          · cases h
theorem runD_wp {E : Em} (L : GL E G) {cs : List Frame} (hcs : recoverD cs = none) {w : World} : ∀ (n : Nat) (c : Code) (f f' : AF) (x : AX) (a : Act), runD P G n c f = some (x, f') → TR E f a →
    c.wpS P (fun e a' cs' w' => (x = .normal ∨ x = .ret) ∧ e = x.out ∧ cs' = cs ∧ w' = w ∧ TR E f' a' ∧ a'.defers = a.defers ∧ f'.defers = f.defers) a cs w
  | 0, c, f, f', x, a, h, T => by cases h
  | n + 1, c, f, f', x, a, h, T => by
    unfold runD at h
    split at h
    · cases h; exact wpS_of_wp (wp_skip ⟨.inl rfl, rfl, rfl, rfl, T, rfl, rfl⟩)
    · cases h; exact wpS_of_wp (wp_label ⟨.inl rfl, rfl, rfl, rfl, T, rfl, rfl⟩)
    · cases h; exact wpS_of_wp (wp_ret ⟨.inr rfl, rfl, rfl, rfl, T, rfl, rfl⟩)
    · rename_i id ops
      split at h
      · rename_i f1 hr
        cases h
        refine wpS_region ?_
        have := runOpsD_wp (P := P) (G := G) (ops := ops) L hcs (w := w) (Q := fun e a' cs' w' => (AX.normal = .normal ∨ AX.normal = .ret) ∧ e = AX.normal.out ∧ cs' = cs ∧ w' = w ∧ TR E f' a' ∧ a'.defers = a.defers ∧ f'.defers = f.defers) ops.toList 0 f f' a rfl hr T fun a' T' h1 h2 => ⟨.inl rfl, rfl, rfl, rfl, T', h1, h2⟩
        simpa [List.range_eq_range'] using this
      · cases h
    · rename_i c1 c2
      split at h
      · rename_i f1 h1
        refine wpS_seq (wpS_mono (runD_wp L hcs n c1 f f1 .normal a h1 T) ?_)
        rintro e a1 cs1 w1 ⟨_, rfl, rfl, rfl, T1, d1, d2⟩
        refine wpS_mono (runD_wp L hcs n c2 f1 f' x a1 h T1) ?_
        rintro e a2 cs2 w2 ⟨hx, h2, h3, h4, T2, d3, d4⟩
        exact ⟨hx, h2, h3, h4, T2, d3.trans d1, d4.trans d2⟩
      · rename_i f1 h1
        cases h
        refine wpS_seq (wpS_mono (runD_wp L hcs n c1 f f' .ret a h1 T) ?_)
        rintro e a1 cs1 w1 ⟨hx, rfl, h3⟩
        exact ⟨hx, rfl, h3⟩
      · cases h
    · rename_i c0 c1 c2
      split at h
      · rename_i hok hb
        have := ev_rel T L hok
        rw [hb] at this
        exact wpS_cond (bool_inv this) (runD_wp L hcs n c1 f f' x a h T)
      · rename_i hok hb
        have := ev_rel T L hok
        rw [hb] at this
        exact wpS_cond (bool_inv this) (runD_wp L hcs n c2 f f' x a h T)
      · cases h
    · cases h
theorem leaveA_leaves {fn : Func} {tmps : Array Value} {R : Ending → World → Prop} {E : Em} (L : GL E G) {w : World} (hr : ∃ v, (results fn tmps).run P w = .ok v w ∧ R (.returned v) w) :
    ∀ (ds : List (FuncId × List Value)) (ds' : List Deferred), leaveA P G ds = true → DR E ds ds' → Leaves P fn tmps R ds' .returning w
  | [], [], _, _ => hr
  | (g, args) :: ds, d :: ds', h, hd => by
    obtain ⟨⟨cap, dargs, rfl, hl⟩, hd⟩ := hd
    unfold leaveA at h
    split at h
    · rename_i fn' hf
      split at h
      · rename_i c hn hb hres
        split at h
        · rename_i x f hlen hrun
          split at h
          · rename_i hfd
            refine leaves_cons (by simp) (f := g) (args := dargs ++ cap) (by
              have hn' : fn'.name ≠ "runtime.NumGoroutine" := by simpa using hn
              simp [invoke, callFunc, hf, hb, hn']) ?_
            refine CallsD.mono (callsD_of_wpS (R := fun e u' w' => ∃ v, e = .returned v ∧ u' = .returning ∧ w' = w) hf hb fun c₀ cs hc₀ => ?_) ?_
            · have hcs : recoverD (c₀ :: cs) = none := by simp [recoverD, hc₀]
              refine wpS_mono (runD_wp (P := P) (G := G) L hcs (w := w) 100 c _ f x _ hrun (enterF_rel hl (ble_le hlen))) ?_
              rintro e a cs' w' ⟨hx, rfl, rfl, rfl, T, h1, h2⟩
              have hres' : fn'.results = #[] := by apply Array.toList_inj.1; rw [hres]
              have hpost : a.defers = [] ∧ ∃ u', c₀ :: cs = { c₀ with mode := u' } :: cs ∧ ∃ v, (results fn' a.tmps).run P w' = .ok v w' ∧ (∃ v', Ending.returned v = .returned v' ∧ u' = .returning ∧ w' = w') := by
                refine ⟨h1, .returning, ?_, .tuple #[], ?_, _, rfl, rfl, rfl⟩
                · rw [← hc₀]
                · simp [results, hres']
              rcases hx with rfl | rfl
              · exact hpost
              · exact hpost
            · rintro e u' w' ⟨v, rfl, rfl, rfl⟩
              exact leaveA_leaves L hr ds ds' h hd
          · cases h
        · cases h
      · cases h
    · cases h
  | [], _ :: _, _, hd => hd.elim
  | _ :: _, [], _, hd => hd.elim

/-- what a piece of code leaves behind -/
def Post (E : Em) (s : HS) (w : World) (x : AX) (f' : AF) (s' : HS) (l : List Nat) : Exit → Act → World → Prop :=
  fun e a' w' => e = x.out ∧ ∃ E', Tx E s.at w s.next E' s'.at w' s'.next l ∧ TR E' f' a' ∧ DR E' f'.defers a'.defers
structure Good (P : Program) (G : Gl) (rec : Rec) : Prop where
  known : ∀ x ∈ G.known, KOk P G.vars x ∧ x.n0 ≤ x.n1
  keep : ∀ {c f s x f' s'}, rec c f s = some (x, f', s') → ∃ l, Keeps s s' l
  wp : ∀ {c f s x f' s'}, rec c f s = some (x, f', s') → ∀ {l}, s'.log = l ++ s.log → ∀ {E w a}, HR E s.at w → TR E f a → GL E G → DR E f.defers a.defers → Fresh E s.next s'.next → c.wp P (Post E s w x f' s' l) a w
theorem callN_spec {rec : Rec} {g : Nat} {args : List Value} {s s' : HS} {v : Value} (h : callN P G rec g args s = some (v, s')) :
    ∃ fn c x f', P.funcs[g]? = some fn ∧ fn.body = some c ∧ args.length ≤ lim ∧ rec c (enterF fn args) s = some (x, f', s') ∧ (x = .normal ∨ x = .ret) ∧ leaveA P G f'.defers = true ∧ resultsA P f' s' fn.results.toList = some v := by
  unfold callN at h
  simp only [enterK_eq] at h
  split at h
  · rename_i fn hf
    split at h
    · rename_i c hb
      split at h
      · rename_i f' s1 hl hr
        split at h
        · rename_i v1 h1 h2
          cases h
          exact ⟨fn, c, _, f', hf, hb, ble_le hl, hr, .inl rfl, h1, h2⟩
        · cases h
      · rename_i f' s1 hl hr
        split at h
        · rename_i v1 h1 h2
          cases h
          exact ⟨fn, c, _, f', hf, hb, ble_le hl, hr, .inr rfl, h1, h2⟩
        · cases h
      · cases h
    · cases h
  · cases h
theorem callF_keeps {rec : Rec} (R : Good P G rec) {g : Nat} {args : List Value} {s s' : HS} {v : Value} (h : callF P G rec g args s = some (v, s')) : ∃ l, Keeps s s' l := by
  unfold callF at h
  split at h
  · rename_i r hr
    cases h
    exact ⟨[], applyK_keeps (fun x hx => (R.known x hx).2) hr⟩
  · obtain ⟨fn, c, x, f', _, _, _, hr, _⟩ := callN_spec h
    exact R.keep hr
theorem callF_calls {rec : Rec} (R : Good P G rec) {g : Nat} {args : List Value} {s s' : HS} {v : Value} (h : callF P G rec g args s = some (v, s')) {l : List Nat} (hl : s'.log = l ++ s.log) {E : Em} {w : World} {args' : Array Value}
    (H : HR E s.at w) (ha : LR E args args'.toList) (L : GL E G) (F : Fresh E s.next s'.next) : Calls P g args' w (Back E s w v s' l) := by
  unfold callF at h
  split at h
  · rename_i r hr
    cases h
    exact applyK_calls (fun x hx => (R.known x hx).1) hr hl H ha L F
  · obtain ⟨fn, c, x, f', hf, hb, hlen, hr, hx, hlv, hres⟩ := callN_spec h
    refine calls_of_wp_defers hf hb (wp_mono (R.wp hr hl H (enterF_rel ha hlen) L (by simp [enterF, DR]) F) ?_)
    rintro e a w' ⟨rfl, E', T, hT, hD⟩
    obtain ⟨v', h1, h2⟩ := resultsA_run (P := P) hT T.hr hres
    have key : Leaves P fn a.tmps (Back E s w v s' l) a.defers .returning w' := leaveA_leaves (L.ext T.ext) ⟨v', h2, v', E', rfl, h1, T⟩ f'.defers a.defers hlv hD
    rcases hx with rfl | rfl
    · exact key
    · exact key

theorem cancel {a b c : List Nat} (h : a ++ c = b ++ c) : a = b := List.append_cancel_right h
theorem stepOp_ok {rec : Rec} {f : AF} {s : HS} {o : Oper} {r : Value × HS} (h : stepOp P G rec f s o = some r) : o.op.operands.all (okOp G) = true := by
  cases hb : o.op.operands.all (okOp G) with
  | true => rfl
  | false =>
    unfold stepOp runOp at h
    rw [allOk_eq, hb] at h
    cases h
theorem stepOp_keeps {rec : Rec} (R : Good P G rec) {f : AF} {s s' : HS} {o : Oper} {v : Value} (h : stepOp P G rec f s o = some (v, s')) : ∃ l, Keeps s s' l := by
  unfold stepOp at h
  split at h
  · rename_i hr
    cases h
    exact (runOp_moves hr).keeps
  · exact callF_keeps R h
  · cases h
theorem stepOp_wp {rec : Rec} (R : Good P G rec) {f : AF} {s s' : HS} {o : Oper} {v : Value} (h : stepOp P G rec f s o = some (v, s')) {l : List Nat} (hl : s'.log = l ++ s.log) {E : Em} {w : World} {a : Act}
    (H : HR E s.at w) (hρ : ∀ z ∈ o.op.operands, VR E (ev f z) (a.eval z)) (L : GL E G) (F : Fresh E s.next s'.next) {K : Act → World → Prop} {Q : Exit → Act → World → Prop}
    (hK : ∀ E' w' v', Tx E s.at w s.next E' s'.at w' s'.next l → VR E' v v' → K (a.put o.dst v') w') : o.wp P a w K Q := by
  unfold stepOp at h
  split at h
  · rename_i v0 s0 hr
    cases h
    obtain ⟨l', hl', E', v', w', nx, h1, h2, h3, h4⟩ := runOp_does (P := P) (w := w) hr H hρ F.one
    have : l' = l := List.append_cancel_right (hl'.symm.trans hl)
    subst this
    unfold Oper.wp
    rw [h1]
    rcases h2 with rfl | ⟨rfl, rfl⟩
    · exact hK E' w' v' h4 h3
    · exact hK E' w' undef h4 h3
  · rename_i g args hr
    obtain ⟨args', h1, h2⟩ := runOp_enters (P := P) (ρ := a.eval) hr hρ
    unfold Oper.wp
    rw [h2 w, Oper.upon_enter]
    refine Calls.mono (callF_calls R h hl H h1 L F) ?_
    rintro e w' ⟨v', E', rfl, hv, T⟩
    exact hK E' w' v' T hv
  · cases h
theorem deferA_spec {f f' : AF} {o : Oper} (h : deferA f o = some f') : ∃ g args ts g' first captured, o.op = .defer ⟨.value g, args, ts⟩ ∧ ev f g = .func (.func g') first captured ∧
    f' = ⟨f.tmps, f.size, (g', first.toList ++ args.toList.map (ev f) ++ captured.toList) :: f.defers⟩ := by
  unfold deferA at h
  split at h
  · rename_i g args ts ho
    split at h
    · rename_i g' first captured he
      cases h
      exact ⟨g, args, ts, g', first, captured, ho, he, rfl⟩
    · cases h
  · cases h
theorem runOps_keeps {rec : Rec} (R : Good P G rec) {ops : Array Oper} : ∀ (l : List Oper) (f f' : AF) (s s' : HS), runOps P G rec ops l f s = some (f', s') → ∃ m, Keeps s s' m
  | [], f, f', s, s', h => by cases h; exact ⟨[], Keeps.refl _⟩
  | o :: l, f, f', s, s', h => by
    unfold runOps at h
    split at h
    · split at h
      · exact runOps_keeps R l _ _ _ _ h
      · cases h
    · split at h
      · split at h
        · exact runOps_keeps R l _ _ _ _ h
        · cases h
      · split at h
        · rename_i v s1 hs
          split at h
          · obtain ⟨m1, k1⟩ := stepOp_keeps R hs
            obtain ⟨m2, k2⟩ := runOps_keeps R l _ _ _ _ h
            exact ⟨_, k1.trans k2⟩
          · cases h
        · cases h
theorem runOps_wp {rec : Rec} (R : Good P G rec) {ops : Array Oper} {Q : Exit → Act → World → Prop} : ∀ (l : List Oper) (i : Nat) (f f' : AF) (s s' : HS) (a : Act) (E : Em) (w : World) (m : List Nat),
    ops.toList.drop i = l → runOps P G rec ops l f s = some (f', s') → s'.log = m ++ s.log → HR E s.at w → TR E f a → GL E G → DR E f.defers a.defers → Fresh E s.next s'.next →
    (∀ a' w' E', Tx E s.at w s.next E' s'.at w' s'.next m → TR E' f' a' → DR E' f'.defers a'.defers → Q .normal a' w') → wpOps P ops Q (List.range' i l.length) a w
  | [], i, f, f', s, s', a, E, w, m, _, h, hm, H, T, L, D, F, hQ => by
    cases h
    have : m = [] := cancel (c := s.log) (by simpa using hm.symm)
    subst this
    exact hQ a w E (Tx.refl _ H) T D
  | o :: l, i, f, f', s, s', a, E, w, m, hd, h, hm, H, T, L, D, F, hQ => by
    have ho : ops[i]? = some o := by
      have := congrArg (·[0]?) hd
      simpa using this
    have hd' : ops.toList.drop (i + 1) = l := by
      have := congrArg List.tail hd
      simpa using this
    rw [List.length_cons, List.range'_succ]
    simp only [wpOps, ho, wanted_tr T]
    unfold runOps at h
    split at h
    · rename_i hw
      rw [hw]
      simp only [Bool.false_eq_true, if_false]
      split at h
      · rename_i f1 hp
        refine runOps_wp R l (i + 1) f1 f' s s' _ E w m hd' h hm H (T.put hp VR.undef) L ?_ F hQ
        rw [act_put_defers, (AF.putO_spec hp).2.1]
        exact D
      · cases h
    · rename_i hw
      rw [hw]
      simp only [if_true]
      refine .inl ?_
      split at h
      · rename_i f1 hdef
        obtain ⟨g, args, ts, g', first, captured, hop, he, rfl⟩ := deferA_spec hdef
        split at h
        · rename_i f2 hok hp
          have hall := ok_all T L hok
          have hg := hall g (by rw [hop]; simp [Op.operands, Call.operands])
          rw [he] at hg
          obtain ⟨first', captured', e2, l1, l2⟩ := hg.func_inv
          have hl := lr_map (E := E) args.toList fun p hp => hall p (by rw [hop]; simp [Op.operands, Call.operands, Array.mem_toList_iff.1 hp])
          have hx : (execOp a.eval o).run P w = .ok (.defer ⟨.fn (.func g') captured', first' ++ args.map a.eval⟩) w := by
            obtain ⟨dst, op, type, pos, after, guard⟩ := o
            simp only at hop
            subst hop
            simp [execOp, resolve, e2, Deferred.ofValue]
          unfold Oper.wp
          rw [hx, Oper.upon_defer]
          refine runOps_wp R l (i + 1) f2 f' s s' _ E w m hd' h hm H ?_ L ?_ F hQ
          · have T1 : TR E ⟨f.tmps, f.size, (g', first.toList ++ args.toList.map (ev f) ++ captured.toList) :: f.defers⟩ { a with defers := ⟨.fn (.func g') captured', first' ++ args.map a.eval⟩ :: a.defers } := ⟨T.size, T.get⟩
            exact T1.put hp VR.undef
          · rw [act_put_defers, (AF.putO_spec hp).2.1]
            refine ⟨⟨captured', first' ++ args.map a.eval, rfl, ?_⟩, D⟩
            simp only [Array.toList_append, Array.toList_map]
            exact (l1.append hl).append l2
        · cases h
      · split at h
        · rename_i v s1 hs
          split at h
          · rename_i f1 hp
            obtain ⟨m1, k1⟩ := stepOp_keeps R hs
            obtain ⟨m2, k2⟩ := runOps_keeps R l _ _ _ _ h
            have hmm : m = m2 ++ m1 := cancel (c := s.log) (by rw [← hm, k2.log, k1.log, List.append_assoc])
            subst hmm
            refine stepOp_wp R hs k1.log H (ok_all T L (stepOp_ok hs)) L (F.sub (Nat.le_refl _) k2.le) fun E' w' v' T1 hv => ?_
            refine runOps_wp R l (i + 1) f1 f' s1 s' _ E' w' m2 hd' h k2.log T1.hr ((T.ext T1.ext).put hp hv) (L.ext T1.ext) ?_ (F.after T1) fun a' w'' E'' T2 hT hD => hQ a' w'' E'' (T1.trans T2) hT hD
            rw [act_put_defers, (AF.putO_spec hp).2.1]
            exact D.ext T1.ext
          · cases h
        · cases h
end
end Go.Proofs.YtcnclcfglfgjlaaGreatDoor.Cx
