/- CxGood; CxMix; CxDrawn: merged into one text: lemmas for the walk of the law. No condition. -/
import Derived.Test.YtkekpiillbpciaaGreatDoorC5
/- A machine that runs a program's code on written inputs by computation alone, part 16: deferred functions, calls, plain regions. No condition. -/
namespace Go.Proofs.YtkekpiillbpciaaGreatDoor.Cx
open Go

section
variable {P : Program} {G : Gl}
theorem ok_all {f : AF} {a : Act} {E : Em} (T : TR E f a) (L : GL E G) {o : Oper} (h : o.op.operands.all (okOp G) = true) : ∀ z ∈ o.op.operands, VR E (ev f z) (a.eval z) :=
  fun z hz => ev_rel T L (Array.all_eq_true_iff_forall_mem.1 h z hz)
theorem wanted_tr {ops : Array Oper} {f : AF} {a : Act} {E : Em} {o : Oper} (T : TR E f a) : Region.wanted o (yielded ops a.tmps) = wantedA ops f o := wantedA_eq fun _ _ t _ _ => T.get t

/-- a deferred function where nothing panics -/
theorem wpS_mono {c : Code} {Q Q' : Exit → Act → List Frame → World → Prop} {a : Act} {cs : List Frame} {w : World} (h : c.wpS P Q a cs w) (hq : ∀ e a cs w, Q e a cs w → Q' e a cs w) : c.wpS P Q' a cs w :=
  fun b k hb hr => let ⟨e, a', cs', w', q, r⟩ := h b k hb hr; ⟨e, a', cs', w', hq _ _ _ _ q, r⟩
theorem heapless_val {f : AF} {E : Em} {o : Oper} {a : Act} {v : Value} (T : TR E f a) (L : GL E G) (hok : o.op.operands.all (okOp G) = true) (h : heapless P f o = some v) :
    ∃ v', VR E v v' ∧ ∀ w, (execOp a.eval o).run P w = .ok (.value v') w := heapless_run h (ok_all T L hok)
theorem runOpsD_wp {ops : Array Oper} {E : Em} (L : GL E G) {Q : Exit → Act → List Frame → World → Prop} {cs : List Frame} (hcs : recoverD cs = none) {w : World} :
    ∀ (l : List Oper) (i : Nat) (f f' : AF) (a : Act), ops.toList.drop i = l → runOpsD P G ops l f = some f' → TR E f a → (∀ a', TR E f' a' → a'.defers = a.defers → f'.defers = f.defers → Q .normal a' cs w) →
      wpOpsS P ops Q (List.range' i l.length) a cs w
  | [], i, f, f', a, _, h, T, hQ => by
    cases h
    exact hQ a T rfl rfl
  | o :: l, i, f, f', a, hd, h, T, hQ => by
    have ho : ops[i]? = some o := by
      have := congrArg (·[0]?) hd
      simpa using this
    have hd' : ops.toList.drop (i + 1) = l := by
      have := congrArg List.tail hd
      simpa using this
    have next : ∀ (f1 : AF) (v v' : Value), f.putO o.dst v = some f1 → VR E v v' → runOpsD P G ops l f1 = some f' → wpOpsS P ops Q (List.range' (i + 1) l.length) (a.put o.dst v') cs w := by
      intro f1 v v' hp hv hr
      refine runOpsD_wp L hcs l (i + 1) f1 f' _ hd' hr (T.put hp hv) fun a' T' h1 h2 => hQ a' T' ?_ ?_
      · rw [h1, act_put_defers]
      · rw [h2, (AF.putO_spec hp).2.1]
    rw [List.length_cons, List.range'_succ]
    simp only [wpOpsS, ho, wanted_tr T]
    unfold runOpsD at h
    split at h
    · rename_i hw
      rw [hw]
      simp only [Bool.false_eq_true, if_false]
      split at h
      · rename_i f1 hp
        exact next f1 _ _ hp VR.undef h
      · cases h
    · rename_i hw
      rw [hw]
      simp only [if_true]
      split at h
      · cases h
      · rename_i hok
        split at h
        · cases h
        · rename_i v hv
          split at h
          · rename_i f1 hp
            unfold opD at hv
            split at hv
            · rename_i hrec
              cases hv
              have he : (execOp a.eval o).run P w = .ok .recover w := by
                obtain ⟨dst, op, type, pos, after, guard⟩ := o
                unfold isRecover at hrec
                simp only at hrec
                split at hrec
                · rfl
                · cases hrec
              simp only [he, hcs]
              exact next f1 _ _ hp .nilIface h
            · obtain ⟨v', h1, h2⟩ := heapless_val T L hok hv
              simp only [h2 w, Oper.upon]
              exact next f1 _ _ hp h1 h
          · cases h
theorem runD_wp {E : Em} (L : GL E G) {cs : List Frame} (hcs : recoverD cs = none) {w : World} : ∀ (n : Nat) (c : Code) (f f' : AF) (x : AX) (a : Act), runD P G n c f = some (x, f') → TR E f a →
    c.wpS P (fun e a' cs' w' => (x = .normal ∨ x = .ret) ∧ e = x.out ∧ cs' = cs ∧ w' = w ∧ TR E f' a' ∧ a'.defers = a.defers ∧ f'.defers = f.defers) a cs w
  | 0, c, f, f', x, a, h, T => by cases h
  | n + 1, c, f, f', x, a, h, T => by
    unfold runD at h
    split at h
    · cases h; exact wpS_of_wp (wp_skip ⟨.inl rfl, rfl, rfl, rfl, T, rfl, rfl⟩)
    · cases h; exact wpS_of_wp (wp_label ⟨.inl rfl, rfl, rfl, rfl, T, rfl, rfl⟩)
    · cases h; exact wpS_of_wp (wp_ret ⟨.inr rfl, rfl, rfl, rfl, T, rfl, rfl⟩)
    · rename_i id ops
      split at h
      · rename_i f1 hr
        cases h
        refine wpS_region ?_
        have := runOpsD_wp (P := P) (G := G) (ops := ops) L hcs (w := w) (Q := fun e a' cs' w' => (AX.normal = .normal ∨ AX.normal = .ret) ∧ e = AX.normal.out ∧ cs' = cs ∧ w' = w ∧ TR E f' a' ∧ a'.defers = a.defers ∧ f'.defers = f.defers) ops.toList 0 f f' a rfl hr T fun a' T' h1 h2 => ⟨.inl rfl, rfl, rfl, rfl, T', h1, h2⟩
        simpa [List.range_eq_range'] using this
      · cases h
    · rename_i c1 c2
      split at h
      · rename_i f1 h1
        refine wpS_seq (wpS_mono (runD_wp L hcs n c1 f f1 .normal a h1 T) ?_)
        rintro e a1 cs1 w1 ⟨_, rfl, rfl, rfl, T1, d1, d2⟩
        refine wpS_mono (runD_wp L hcs n c2 f1 f' x a1 h T1) ?_
        rintro e a2 cs2 w2 ⟨hx, h2, h3, h4, T2, d3, d4⟩
        exact ⟨hx, h2, h3, h4, T2, d3.trans d1, d4.trans d2⟩
      · rename_i f1 h1
        cases h
        refine wpS_seq (wpS_mono (runD_wp L hcs n c1 f f' .ret a h1 T) ?_)
        rintro e a1 cs1 w1 ⟨hx, rfl, h3⟩
        exact ⟨hx, rfl, h3⟩
      · cases h
    · rename_i c0 c1 c2
      split at h
      · rename_i hok hb
        have := ev_rel T L hok
        rw [hb] at this
        exact wpS_cond (bool_inv this) (runD_wp L hcs n c1 f f' x a h T)
      · rename_i hok hb
        have := ev_rel T L hok
        rw [hb] at this
        exact wpS_cond (bool_inv this) (runD_wp L hcs n c2 f f' x a h T)
      · cases h
    · cases h
theorem leaveA_leaves {fn : Func} {tmps : Array Value} {R : Ending → World → Prop} {E : Em} (L : GL E G) {w : World} (hr : ∃ v, (results fn tmps).run P w = .ok v w ∧ R (.returned v) w) :
    ∀ (ds : List (FuncId × List Value)) (ds' : List Deferred), leaveA P G ds = true → DR E ds ds' → Leaves P fn tmps R ds' .returning w
  | [], [], _, _ => hr
  | (g, args) :: ds, d :: ds', h, hd => by
    obtain ⟨⟨cap, dargs, rfl, hl⟩, hd⟩ := hd
    unfold leaveA at h
    split at h
    · rename_i fn' hf
      split at h
      · rename_i c hn hb hres
        split at h
        · rename_i x f hlen hrun
          split at h
          · rename_i hfd
            refine leaves_cons (by simp) (f := g) (args := dargs ++ cap) (by
              have hn' : fn'.name ≠ "runtime.NumGoroutine" := by simpa using hn
              simp [invoke, callFunc, hf, hb, hn']) ?_
            refine CallsD.mono (callsD_of_wpS (R := fun e u' w' => ∃ v, e = .returned v ∧ u' = .returning ∧ w' = w) hf hb fun c₀ cs hc₀ => ?_) ?_
            · have hcs : recoverD (c₀ :: cs) = none := by simp [recoverD, hc₀]
              refine wpS_mono (runD_wp (P := P) (G := G) L hcs (w := w) 100 c _ f x _ hrun (enterF_rel hl (ble_le hlen))) ?_
              rintro e a cs' w' ⟨hx, rfl, rfl, rfl, T, h1, h2⟩
              have hres' : fn'.results = #[] := by apply Array.toList_inj.1; rw [hres]
              have hpost : a.defers = [] ∧ ∃ u', c₀ :: cs = { c₀ with mode := u' } :: cs ∧ ∃ v, (results fn' a.tmps).run P w' = .ok v w' ∧ (∃ v', Ending.returned v = .returned v' ∧ u' = .returning ∧ w' = w') := by
                refine ⟨h1, .returning, ?_, .tuple #[], ?_, _, rfl, rfl, rfl⟩
                · rw [← hc₀]
                · simp [results, hres']
              rcases hx with rfl | rfl
              · exact hpost
              · exact hpost
            · rintro e u' w' ⟨v, rfl, rfl, rfl⟩
              exact leaveA_leaves L hr ds ds' h hd
          · cases h
        · cases h
      · cases h
    · cases h
  | [], _ :: _, _, hd => hd.elim
  | _ :: _, [], _, hd => hd.elim

/-- what a piece of code leaves behind -/
def Post (E : Em) (s : HS) (w : World) (x : AX) (f' : AF) (s' : HS) (l : List Nat) : Exit → Act → World → Prop :=
  fun e a' w' => e = x.out ∧ ∃ E', Tx E s.at w s.next E' s'.at w' s'.next l ∧ TR E' f' a' ∧ DR E' f'.defers a'.defers
structure Good (P : Program) (G : Gl) (rec : Rec) : Prop where
  known : ∀ x ∈ G.known, KOk P G.vars x ∧ x.n0 ≤ x.n1
  keep : ∀ {c f s x f' s'}, rec c f s = some (x, f', s') → ∃ l, Keeps s s' l
  wp : ∀ {c f s x f' s'}, rec c f s = some (x, f', s') → ∀ {l}, s'.log = l ++ s.log → ∀ {E w a}, HR E s.at w → TR E f a → GL E G → DR E f.defers a.defers → Fresh E s.next s'.next → c.wp P (Post E s w x f' s' l) a w
theorem callN_spec {rec : Rec} {g : Nat} {args : List Value} {s s' : HS} {v : Value} (h : callN P G rec g args s = some (v, s')) :
    ∃ fn c x f', P.funcs[g]? = some fn ∧ fn.body = some c ∧ args.length ≤ lim ∧ rec c (enterF fn args) s = some (x, f', s') ∧ (x = .normal ∨ x = .ret) ∧ leaveA P G f'.defers = true ∧ resultsA P f' s' fn.results.toList = some v := by
  unfold callN at h
  simp only [enterK_eq] at h
  split at h
  · rename_i fn hf
    split at h
    · rename_i c hb
      split at h
      · rename_i f' s1 hl hr
        split at h
        · rename_i v1 h1 h2
          cases h
          exact ⟨fn, c, _, f', hf, hb, ble_le hl, hr, .inl rfl, h1, h2⟩
        · cases h
      · rename_i f' s1 hl hr
        split at h
        · rename_i v1 h1 h2
          cases h
          exact ⟨fn, c, _, f', hf, hb, ble_le hl, hr, .inr rfl, h1, h2⟩
        · cases h
      · cases h
    · cases h
  · cases h
theorem callF_keeps {rec : Rec} (R : Good P G rec) {g : Nat} {args : List Value} {s s' : HS} {v : Value} (h : callF P G rec g args s = some (v, s')) : ∃ l, Keeps s s' l := by
  unfold callF at h
  split at h
  · rename_i r hr
    cases h
    exact ⟨[], applyK_keeps (fun x hx => (R.known x hx).2) hr⟩
  · obtain ⟨fn, c, x, f', _, _, _, hr, _⟩ := callN_spec h
    exact R.keep hr
theorem callF_calls {rec : Rec} (R : Good P G rec) {g : Nat} {args : List Value} {s s' : HS} {v : Value} (h : callF P G rec g args s = some (v, s')) {l : List Nat} (hl : s'.log = l ++ s.log) {E : Em} {w : World} {args' : Array Value}
    (H : HR E s.at w) (ha : LR E args args'.toList) (L : GL E G) (F : Fresh E s.next s'.next) : Calls P g args' w (Back E s w v s' l) := by
  unfold callF at h
  split at h
  · rename_i r hr
    cases h
    exact applyK_calls (fun x hx => (R.known x hx).1) hr hl H ha L F
  · obtain ⟨fn, c, x, f', hf, hb, hlen, hr, hx, hlv, hres⟩ := callN_spec h
    refine calls_of_wp_defers hf hb (wp_mono (R.wp hr hl H (enterF_rel ha hlen) L (by simp [enterF, DR]) F) ?_)
    rintro e a w' ⟨rfl, E', T, hT, hD⟩
    obtain ⟨v', h1, h2⟩ := resultsA_run (P := P) hT T.hr hres
    have key : Leaves P fn a.tmps (Back E s w v s' l) a.defers .returning w' := leaveA_leaves (L.ext T.ext) ⟨v', h2, v', E', rfl, h1, T⟩ f'.defers a.defers hlv hD
    rcases hx with rfl | rfl
    · exact key
    · exact key

theorem cancel {a b c : List Nat} (h : a ++ c = b ++ c) : a = b := List.append_cancel_right h
theorem stepOp_ok {rec : Rec} {f : AF} {s : HS} {o : Oper} {r : Value × HS} (h : stepOp P G rec f s o = some r) : o.op.operands.all (okOp G) = true := by
  cases hb : o.op.operands.all (okOp G) with
  | true => rfl
  | false =>
    unfold stepOp runOp at h
    rw [allOk_eq, hb] at h
    cases h
theorem stepOp_keeps {rec : Rec} (R : Good P G rec) {f : AF} {s s' : HS} {o : Oper} {v : Value} (h : stepOp P G rec f s o = some (v, s')) : ∃ l, Keeps s s' l := by
  unfold stepOp at h
  split at h
  · rename_i hr
    cases h
    exact (runOp_moves hr).keeps
  · exact callF_keeps R h
  · cases h
theorem stepOp_wp {rec : Rec} (R : Good P G rec) {f : AF} {s s' : HS} {o : Oper} {v : Value} (h : stepOp P G rec f s o = some (v, s')) {l : List Nat} (hl : s'.log = l ++ s.log) {E : Em} {w : World} {a : Act}
    (H : HR E s.at w) (hρ : ∀ z ∈ o.op.operands, VR E (ev f z) (a.eval z)) (L : GL E G) (F : Fresh E s.next s'.next) {K : Act → World → Prop} {Q : Exit → Act → World → Prop}
    (hK : ∀ E' w' v', Tx E s.at w s.next E' s'.at w' s'.next l → VR E' v v' → K (a.put o.dst v') w') : o.wp P a w K Q := by
  unfold stepOp at h
  split at h
  · rename_i v0 s0 hr
    cases h
    obtain ⟨l', hl', E', v', w', nx, h1, h2, h3, h4⟩ := runOp_does (P := P) (w := w) hr H hρ F.one
    have : l' = l := List.append_cancel_right (hl'.symm.trans hl)
    subst this
    unfold Oper.wp
    rw [h1]
    rcases h2 with rfl | ⟨rfl, rfl⟩
    · exact hK E' w' v' h4 h3
    · exact hK E' w' undef h4 h3
  · rename_i g args hr
    obtain ⟨args', h1, h2⟩ := runOp_enters (P := P) (ρ := a.eval) hr hρ
    unfold Oper.wp
    rw [h2 w, Oper.upon_enter]
    refine Calls.mono (callF_calls R h hl H h1 L F) ?_
    rintro e w' ⟨v', E', rfl, hv, T⟩
    exact hK E' w' v' T hv
  · cases h
theorem deferA_spec {f f' : AF} {o : Oper} (h : deferA f o = some f') : ∃ g args ts g' first captured, o.op = .defer ⟨.value g, args, ts⟩ ∧ ev f g = .func (.func g') first captured ∧
    f' = ⟨f.tmps, f.size, (g', first.toList ++ args.toList.map (ev f) ++ captured.toList) :: f.defers⟩ := by
  unfold deferA at h
  split at h
  · rename_i g args ts ho
    split at h
    · rename_i g' first captured he
      cases h
      exact ⟨g, args, ts, g', first, captured, ho, he, rfl⟩
    · cases h
  · cases h
theorem runOps_keeps {rec : Rec} (R : Good P G rec) {ops : Array Oper} : ∀ (l : List Oper) (f f' : AF) (s s' : HS), runOps P G rec ops l f s = some (f', s') → ∃ m, Keeps s s' m
  | [], f, f', s, s', h => by cases h; exact ⟨[], Keeps.refl _⟩
  | o :: l, f, f', s, s', h => by
    unfold runOps at h
    split at h
    · split at h
      · exact runOps_keeps R l _ _ _ _ h
      · cases h
    · split at h
      · split at h
        · exact runOps_keeps R l _ _ _ _ h
        · cases h
      · split at h
        · rename_i v s1 hs
          split at h
          · obtain ⟨m1, k1⟩ := stepOp_keeps R hs
            obtain ⟨m2, k2⟩ := runOps_keeps R l _ _ _ _ h
            exact ⟨_, k1.trans k2⟩
          · cases h
        · cases h
theorem runOps_wp {rec : Rec} (R : Good P G rec) {ops : Array Oper} {Q : Exit → Act → World → Prop} : ∀ (l : List Oper) (i : Nat) (f f' : AF) (s s' : HS) (a : Act) (E : Em) (w : World) (m : List Nat),
    ops.toList.drop i = l → runOps P G rec ops l f s = some (f', s') → s'.log = m ++ s.log → HR E s.at w → TR E f a → GL E G → DR E f.defers a.defers → Fresh E s.next s'.next →
    (∀ a' w' E', Tx E s.at w s.next E' s'.at w' s'.next m → TR E' f' a' → DR E' f'.defers a'.defers → Q .normal a' w') → wpOps P ops Q (List.range' i l.length) a w
  | [], i, f, f', s, s', a, E, w, m, _, h, hm, H, T, L, D, F, hQ => by
    cases h
    have : m = [] := cancel (c := s.log) (by simpa using hm.symm)
    subst this
    exact hQ a w E (Tx.refl _ H) T D
  | o :: l, i, f, f', s, s', a, E, w, m, hd, h, hm, H, T, L, D, F, hQ => by
    have ho : ops[i]? = some o := by
      have := congrArg (·[0]?) hd
      simpa using this
    have hd' : ops.toList.drop (i + 1) = l := by
      have := congrArg List.tail hd
      simpa using this
    rw [List.length_cons, List.range'_succ]
    simp only [wpOps, ho, wanted_tr T]
    unfold runOps at h
    split at h
    · rename_i hw
      rw [hw]
      simp only [Bool.false_eq_true, if_false]
      split at h
      · rename_i f1 hp
        refine runOps_wp R l (i + 1) f1 f' s s' _ E w m hd' h hm H (T.put hp VR.undef) L ?_ F hQ
        rw [act_put_defers, (AF.putO_spec hp).2.1]
        exact D
      · cases h
    · rename_i hw
      rw [hw]
      simp only [if_true]
      refine .inl ?_
      split at h
      · rename_i f1 hdef
        obtain ⟨g, args, ts, g', first, captured, hop, he, rfl⟩ := deferA_spec hdef
        split at h
        · rename_i f2 hok hp
          have hall := ok_all T L hok
          have hg := hall g (by rw [hop]; simp [Op.operands, Call.operands])
          rw [he] at hg
          obtain ⟨first', captured', e2, l1, l2⟩ := hg.func_inv
          have hl := lr_map (E := E) args.toList fun p hp => hall p (by rw [hop]; simp [Op.operands, Call.operands, Array.mem_toList_iff.1 hp])
          have hx : (execOp a.eval o).run P w = .ok (.defer ⟨.fn (.func g') captured', first' ++ args.map a.eval⟩) w := by
            obtain ⟨dst, op, type, pos, after, guard⟩ := o
            simp only at hop
            subst hop
            simp [execOp, resolve, e2, Deferred.ofValue]
          unfold Oper.wp
          rw [hx, Oper.upon_defer]
          refine runOps_wp R l (i + 1) f2 f' s s' _ E w m hd' h hm H ?_ L ?_ F hQ
          · have T1 : TR E ⟨f.tmps, f.size, (g', first.toList ++ args.toList.map (ev f) ++ captured.toList) :: f.defers⟩ { a with defers := ⟨.fn (.func g') captured', first' ++ args.map a.eval⟩ :: a.defers } := ⟨T.size, T.get⟩
            exact T1.put hp VR.undef
          · rw [act_put_defers, (AF.putO_spec hp).2.1]
            refine ⟨⟨captured', first' ++ args.map a.eval, rfl, ?_⟩, D⟩
            simp only [Array.toList_append, Array.toList_map]
            exact (l1.append hl).append l2
        · cases h
      · split at h
        · rename_i v s1 hs
          split at h
          · rename_i f1 hp
            obtain ⟨m1, k1⟩ := stepOp_keeps R hs
            obtain ⟨m2, k2⟩ := runOps_keeps R l _ _ _ _ h
            have hmm : m = m2 ++ m1 := cancel (c := s.log) (by rw [← hm, k2.log, k1.log, List.append_assoc])
            subst hmm
            refine stepOp_wp R hs k1.log H (ok_all T L (stepOp_ok hs)) L (F.sub (Nat.le_refl _) k2.le) fun E' w' v' T1 hv => ?_
            refine runOps_wp R l (i + 1) f1 f' s1 s' _ E' w' m2 hd' h k2.log T1.hr ((T.ext T1.ext).put hp hv) (L.ext T1.ext) ?_ (F.after T1) fun a' w'' E'' T2 hT hD => hQ a' w'' E'' (T1.trans T2) hT hD
            rw [act_put_defers, (AF.putO_spec hp).2.1]
            exact D.ext T1.ext
          · cases h
        · cases h
end
end Go.Proofs.YtkekpiillbpciaaGreatDoor.Cx

/- A machine that runs a program's code on written inputs by computation alone, part 18: what operations that are carried out in any order have written. No condition. -/
namespace Go.Proofs.YtkekpiillbpciaaGreatDoor.Cx
open Go

/-- what the steps of D below k have written over h, each at its places, in the order of their numbers -/
def mix {α : Type} (N : Nat → Nat → Bool) (R : Nat → Nat → α) (h : Nat → α) (D : Nat → Bool) : Nat → Nat → α
  | 0, b => h b
  | k + 1, b => if D k && N k b then R k b else mix N R h D k b
section
variable {α : Type} {N : Nat → Nat → Bool} {R : Nat → Nat → α} {h : Nat → α}
theorem mix_low {D D' : Nat → Bool} {b : Nat} : ∀ k, (∀ i, i < k → N i b = true → D i = D' i) → mix N R h D k b = mix N R h D' k b
  | 0, _ => rfl
  | k + 1, hk => by
    simp only [mix]
    rw [mix_low k fun i hi => hk i (by omega)]
    cases hn : N k b
    · simp
    · rw [hk k (by omega) hn]
theorem mix_high {D : Nat → Bool} {b k : Nat} : ∀ m, k ≤ m → (∀ i, k ≤ i → i < m → D i = true → N i b = false) → mix N R h D m b = mix N R h D k b
  | 0, hm, _ => by rw [Nat.le_zero.1 hm]
  | m + 1, hm, hh => by
    by_cases hk : k = m + 1
    · rw [hk]
    · simp only [mix]
      have : (D m && N m b) = false := by
        cases hd : D m
        · rfl
        · rw [hh m (by omega) (by omega) hd]; rfl
      rw [this]
      simp only [Bool.false_eq_true, if_false]
      exact mix_high m (by omega) fun i h1 h2 => hh i h1 (by omega)
theorem mix_out {D D' : Nat → Bool} {b k : Nat} (hD : ∀ i, i ≠ k → D' i = D i) (hb : N k b = false) : ∀ m, mix N R h D' m b = mix N R h D m b
  | 0 => rfl
  | m + 1 => by
    simp only [mix]
    rw [mix_out hD hb m]
    by_cases hm : m = k
    · subst hm; rw [hb]; simp
    · rw [hD m hm]
theorem mix_in {D D' : Nat → Bool} {b k : Nat} (hD : ∀ i, i ≠ k → D' i = D i) (hk : D' k = true) (hb : N k b = true) (m : Nat) (hkm : k < m) (hh : ∀ i, k < i → i < m → D i = true → N i b = false) : mix N R h D' m b = R k b := by
  rw [mix_high (k := k + 1) m hkm fun i h1 h2 h3 => hh i (by omega) h2 (by rw [← hD i (by omega)]; exact h3)]
  simp [mix, hk, hb]
theorem mix_none {b : Nat} (m : Nat) : mix N R h (fun _ => false) m b = h b := mix_high (k := 0) m (Nat.zero_le m) fun _ _ _ h => by cases h
end
theorem count_less {p q : Nat → Bool} {i : Nat} (hpq : ∀ j, q j = true → p j = true) (hp : p i = true) (hq : q i = false) : ∀ l : List Nat, i ∈ l → l.countP q < l.countP p
  | [], h => by cases h
  | a :: l, h => by
    have hle : l.countP q ≤ l.countP p := List.countP_mono_left fun j _ => hpq j
    rw [List.countP_cons, List.countP_cons]
    rcases List.mem_cons.1 h with rfl | h
    · rw [hp, hq]; simp; omega
    · have := count_less hpq hp hq l h
      cases hqa : q a
      · simp; omega
      · rw [hpq a hqa]; simp; omega
end Go.Proofs.YtkekpiillbpciaaGreatDoor.Cx

/- A machine that runs a program's code on written inputs by computation alone, part 19: what each operation of a region that draws its order does, in the order of the text. No condition. -/
namespace Go.Proofs.YtkekpiillbpciaaGreatDoor.Cx
open Go

section
variable {P : Program} {G : Gl} {rec : Rec} {ops : Array Oper} {anc : List Nat}
theorem eraseAll_get : ∀ (l : List Nat) (t : Tr AObj) (b : Nat), (∀ c ∈ l, c ≤ lim) → (eraseAll l t).get b = if b ∈ l then none else t.get b
  | [], t, b, _ => by simp [eraseAll]
  | c :: l, t, b, h => by
    have hc : c ≤ lim := h c (by simp)
    simp only [eraseAll, setK_eq]
    rw [eraseAll_get l _ b fun d hd => h d (by simp [hd])]
    by_cases hb : b ∈ l
    · rw [if_pos hb, if_pos (by simp [hb])]
    · rw [if_neg hb]
      by_cases hbc : b = c
      · subst hbc
        rw [if_pos (by simp), Tr.get_set _ _ _ (by unfold deep; unfold lim at hc; omega)]
      · rw [if_neg (by simp [hb, hbc]), Tr.get_set_ne _ _ _ _ hbc]
theorem overlay_get (src : Tr AObj) : ∀ (l : List Nat) (t h : Tr AObj) (b : Nat), overlay src l t = some h → h.get b = if b ∈ l then src.get b else t.get b
  | [], t, h, b, ho => by cases ho; simp
  | c :: l, t, h, b, ho => by
    unfold overlay at ho
    split at ho
    · rename_i hc
      have hc := ble_le hc
      have ho : overlay src l (t.set deep c (src.get c)) = some h := by
        split at ho
        · rename_i o hs; rw [hs]; simpa only [setK_eq] using ho
        · rename_i hs; rw [hs]; simpa only [setK_eq] using ho
      rw [overlay_get src l _ h b ho]
      by_cases hb : b ∈ l
      · rw [if_pos hb, if_pos (by simp [hb])]
      · rw [if_neg hb]
        by_cases hbc : b = c
        · subst hbc
          rw [if_pos (by simp), Tr.get_set _ _ _ (by unfold deep; unfold lim at hc; omega)]
        · rw [if_neg (by simp [hb, hbc]), Tr.get_set_ne _ _ _ _ hbc]
    · cases ho
theorem mem_touched {lo hi b : Nat} {l : List Nat} : b ∈ touched lo hi l ↔ b ∈ l ∧ ¬ (lo ≤ b ∧ b < hi) := by
  unfold touched
  rw [List.mem_filter]
  simp only [Bool.not_eq_true', Bool.and_eq_false_iff]
  constructor
  · rintro ⟨h1, h2⟩
    refine ⟨h1, fun h3 => ?_⟩
    rcases h2 with h2 | h2
    · rw [Nat.ble_eq_true_of_le h3.1] at h2; cases h2
    · have : Nat.blt b hi = true := by rw [Nat.blt_eq]; exact h3.2
      rw [this] at h2; cases h2
  · rintro ⟨h1, h2⟩
    refine ⟨h1, ?_⟩
    rcases Nat.lt_or_ge b lo with h3 | h3
    · left
      cases hb : Nat.ble lo b
      · rfl
      · have := ble_le hb; omega
    · right
      cases hb : Nat.blt b hi
      · rfl
      · rw [Nat.blt_eq] at hb; exact absurd ⟨h3, hb⟩ h2
theorem mem_range1 {lo n b : Nat} : b ∈ List.range' lo n ↔ lo ≤ b ∧ b < lo + n := List.mem_range'_1

/-- what an operation that looked at the heap did -/
structure Heaped (P : Program) (G : Gl) (rec : Rec) (anc : List Nat) (k : Nat) (o : Oper) (d d' : DS) (v : Value) (t : HS) (rem nms : List Nat) : Prop where
  rem_eq : rem = (d.done.filter fun x => !isAnc anc x.k k).flatMap (·.nms)
  ran : ∃ hp rds, stepOp P G rec d.f ⟨hp, d.s.next, []⟩ o = some (v, t) ∧ d'.done = ⟨k, nms, rds⟩ :: d.done ∧ ((∀ x ∈ d.done, ∀ b ∈ x.nms, b ≤ lim) → ∀ b ob, hp.get b = some ob → d.s.at b = some ob ∧ b ∉ rem ∧ ∀ l, rds = some l → b ∈ l)
  low : ∀ b ∈ t.log, (d.s.next ≤ b ∧ b < t.next) ∨ (b < d.s.next ∧ b ∉ rem)
  free : ∀ x ∈ d.done, isAnc anc x.k k = false → (∀ b ∈ t.log, d.s.next ≤ b ∧ b < t.next) ∨ ∃ l, x.rds = some l ∧ ∀ b ∈ t.log, (d.s.next ≤ b ∧ b < t.next) ∨ b ∉ l
  room : t.next ≤ lim
  names : ∀ b, b ∈ nms ↔ (d.s.next ≤ b ∧ b < t.next) ∨ b ∈ t.log
  next : d'.s.next = t.next
  log : d'.s.log = t.log ++ d.s.log
  here : ∀ b, b ∈ nms → d'.s.at b = t.at b
  keep : ∀ b, b ∉ nms → d'.s.at b = d.s.at b
  put : d.f.putO o.dst v = some d'.f
inductive One (P : Program) (G : Gl) (rec : Rec) (ops : Array Oper) (anc : List Nat) (k : Nat) (o : Oper) (d d' : DS) : Prop where
  | off : wantedA ops d.f o = false → d.f.putO o.dst undef = some d'.f → d'.s = d.s → d'.done = d.done → One P G rec ops anc k o d d'
  | val (v : Value) : wantedA ops d.f o = true → o.op.operands.all (okOp G) = true → heapless P d.f o = some v → d.f.putO o.dst v = some d'.f → d'.s = d.s → d'.done = d.done → One P G rec ops anc k o d d'
  | heap (v : Value) (t : HS) (rem nms : List Nat) : wantedA ops d.f o = true → o.op.operands.all (okOp G) = true → Heaped P G rec anc k o d d' v t rem nms → One P G rec ops anc k o d d'

theorem free_spec {inc : List DRec} {tch : List Nat} (h : free inc tch = true) : tch = [] ∨ ∀ x ∈ inc, ∃ l, x.rds = some l ∧ ∀ b ∈ tch, b ∉ l := by
  unfold free at h
  split at h
  · exact .inl rfl
  · right
    intro x hx
    have hx := List.all_eq_true.1 h x hx
    unfold apartR at hx
    split at hx
    · rename_i l hl
      exact ⟨l, hl, fun b hb => by simpa using List.all_eq_true.1 hx b hb⟩
    · cases hx
theorem pickAll_get (rem : List Nat) (t : Tr AObj) (b : Nat) (o : AObj) : ∀ l : List Nat, (pickAll rem t l).get b = some o → t.get b = some o ∧ b ∉ rem ∧ b ∈ l
  | [], h => by cases h
  | c :: r, h => by
    unfold pickAll at h
    split at h
    · rename_i o' hc ho
      rw [setK_eq] at h
      simp only [Bool.and_eq_true] at hc
      have hl := ble_le hc.1
      by_cases hb : b = c
      · subst hb
        rw [Tr.get_set _ _ _ (by unfold deep; unfold lim at hl; omega)] at h
        cases h
        exact ⟨ho, by simpa using hc.2, by simp⟩
      · rw [Tr.get_set_ne _ _ _ _ hb] at h
        obtain ⟨h1, h2, h3⟩ := pickAll_get rem t b o r h
        exact ⟨h1, h2, List.mem_cons_of_mem _ h3⟩
    · obtain ⟨h1, h2, h3⟩ := pickAll_get rem t b o r h
      exact ⟨h1, h2, List.mem_cons_of_mem _ h3⟩
theorem heapFor_get {t : Tr AObj} {rem : List Nat} {rds : Option (List Nat)} (hlim : ∀ c ∈ rem, c ≤ lim) {b : Nat} {o : AObj} (h : (heapFor t rem rds).get b = some o) : t.get b = some o ∧ b ∉ rem ∧ ∀ l, rds = some l → b ∈ l := by
  cases rds with
  | none =>
    have h : (eraseAll rem t).get b = some o := h
    rw [eraseAll_get rem t b hlim] at h
    by_cases hr : b ∈ rem
    · rw [if_pos hr] at h; cases h
    · rw [if_neg hr] at h
      exact ⟨h, hr, fun l hl => by cases hl⟩
  | some l =>
    obtain ⟨h1, h2, h3⟩ := pickAll_get rem t b o l h
    exact ⟨h1, h2, fun l' hl => by cases hl; exact h3⟩
theorem direct_spec {rem : List Nat} {rds : Option (List Nat)} (h : direct rem rds = true) : rem = [] ∧ rds = none := by
  unfold direct at h
  split at h
  · split at h
    · exact ⟨rfl, rfl⟩
    · cases h
  · cases h
theorem joinA_spec {s t s' : HS} {inc : List DRec} {rem tch nms : List Nat} {rds : Option (List Nat)} (h : joinA s t inc rem rds tch = some (s', nms)) :
    t.next ≤ lim ∧ (∀ b ∈ tch, b < s.next ∧ b ∉ rem) ∧ (tch = [] ∨ ∀ x ∈ inc, ∃ l, x.rds = some l ∧ ∀ b ∈ tch, b ∉ l) ∧ nms = List.range' s.next (t.next - s.next) ++ tch ∧ s'.next = t.next ∧ s'.log = t.log ++ s.log ∧
      (((rem = [] ∧ rds = none) ∧ s'.heap = t.heap) ∨ overlay t.heap nms s.heap = some s'.heap) := by
  have key : (Nat.ble t.next lim && tch.all (fun b => Nat.blt b s.next && !rem.contains b)) = true → t.next ≤ lim ∧ (∀ b ∈ tch, b < s.next ∧ b ∉ rem) := by
    intro h
    rw [Bool.and_eq_true] at h
    refine ⟨ble_le h.1, fun b hb => ?_⟩
    have := List.all_eq_true.1 h.2 b hb
    rw [Bool.and_eq_true, Nat.blt_eq] at this
    exact ⟨this.1, by simpa using this.2⟩
  unfold joinA at h
  split at h
  · rename_i h1 h2 h3
    cases h
    obtain ⟨k1, k2⟩ := key h1
    exact ⟨k1, k2, free_spec h2, rfl, rfl, rfl, .inl ⟨direct_spec h3, rfl⟩⟩
  · rename_i h1 h2 h3
    obtain ⟨k1, k2⟩ := key h1
    split at h
    · rename_i hp ho
      cases h
      exact ⟨k1, k2, free_spec h2, rfl, rfl, rfl, .inr ho⟩
    · cases h
  · cases h
theorem drawn1_one (R : Good P G rec) {k : Nat} {o : Oper} {d d' : DS} (h : drawn1 P G rec ops anc k o d = some d') : One P G rec ops anc k o d d' := by
  unfold drawn1 at h
  split at h
  · rename_i hw
    split at h
    · rename_i f1 hp; cases h; exact .off hw hp rfl rfl
    · cases h
  · rename_i hw
    split at h
    · cases h
    · rename_i hok
      rw [allOk_eq] at hok
      split at h
      · rename_i v hv
        split at h
        · rename_i f1 hp; cases h; exact .val v hw hok hv hp rfl rfl
        · cases h
      · split at h
        · rename_i v s1 nms hh
          split at h
          · rename_i f1 hp
            cases h
            unfold heapStep at hh
            split at hh
            · rename_i v1 t hrun
              split at hh
              · rename_i s2 nms2 hj
                cases hh
                obtain ⟨j1, j2, j3, j4, j5, j6, j7⟩ := joinA_spec hj
                obtain ⟨l, K⟩ := stepOp_keeps R hrun
                have hl : l = t.log := by have := K.log; simpa using this.symm
                subst hl
                have hle : d.s.next ≤ t.next := K.le
                have hnames : ∀ b, b ∈ nms ↔ (d.s.next ≤ b ∧ b < t.next) ∨ b ∈ t.log := by
                  intro b
                  rw [j4, List.mem_append, mem_range1, mem_touched]
                  constructor
                  · rintro (h | h)
                    · exact .inl (by omega)
                    · exact .inr h.1
                  · rintro (h | h)
                    · exact .inl (by omega)
                    · by_cases hb : d.s.next ≤ b ∧ b < t.next
                      · exact .inl (by omega)
                      · exact .inr ⟨h, hb⟩
                refine .heap v t _ nms hw hok ⟨rfl, ⟨_, _, hrun, rfl, fun hlim b ob hb => heapFor_get (fun c hc => by
                  obtain ⟨x, hx, hc⟩ := List.mem_flatMap.1 hc
                  exact hlim x (List.mem_filter.1 hx).1 c hc) hb⟩, ?_, ?_, j1, hnames, j5, j6, ?_, ?_, hp⟩
                · intro b hb
                  by_cases hx : d.s.next ≤ b ∧ b < t.next
                  · exact .inl hx
                  · exact .inr (j2 b (mem_touched.2 ⟨hb, hx⟩))
                · intro x hx hax
                  rcases j3 with j3 | j3
                  · left
                    intro b hb
                    refine Classical.byContradiction fun hn => ?_
                    have : b ∈ touched d.s.next t.next t.log := mem_touched.2 ⟨hb, hn⟩
                    rw [j3] at this
                    cases this
                  · right
                    obtain ⟨l, hl, hd⟩ := j3 x (List.mem_filter.2 ⟨hx, by simp [hax]⟩)
                    refine ⟨l, hl, fun b hb => ?_⟩
                    by_cases hm : d.s.next ≤ b ∧ b < t.next
                    · exact .inl hm
                    · exact .inr (hd b (mem_touched.2 ⟨hb, hm⟩))
                · intro b hb
                  rcases j7 with ⟨_, j7⟩ | j7
                  · unfold HS.at
                    rw [j7]
                  · have := overlay_get t.heap nms d.s.heap s1.heap b j7
                    rw [if_pos hb] at this
                    exact this
                · intro b hb
                  rcases j7 with ⟨⟨j6', j8⟩, j7⟩ | j7
                  · have hb' := hb
                    rw [hnames] at hb'
                    simp only [not_or] at hb'
                    have hk := K.keep b (by show b < d.s.next ∨ t.next ≤ b; omega) hb'.2
                    rw [j6', j8] at hk
                    unfold HS.at at hk ⊢
                    rw [j7]
                    exact hk
                  · have := overlay_get t.heap nms d.s.heap s1.heap b j7
                    rw [if_neg hb] at this
                    exact this
              · cases hh
            · cases hh
          · cases h
        · cases h
end
end Go.Proofs.YtkekpiillbpciaaGreatDoor.Cx
