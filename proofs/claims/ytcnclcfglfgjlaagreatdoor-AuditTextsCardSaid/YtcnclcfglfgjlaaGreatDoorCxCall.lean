/- A machine that runs a program's code on written inputs by computation alone, part 15: temporaries, deferred calls, calls. No condition. -/
import Derived.Test.YtcnclcfglfgjlaaGreatDoorCxOps2
import Derived.Recover
namespace Go.Proofs.YtcnclcfglfgjlaaGreatDoor.Cx
open Go

/-- deferred calls -/
def DR (E : Em) : List (FuncId × List Value) → List Deferred → Prop
  | [], [] => True
  | x :: r, d :: ds => (∃ cap args, d = ⟨.fn (.func x.1) cap, args⟩ ∧ LR E x.2 (args ++ cap).toList) ∧ DR E r ds
  | _, _ => False
theorem DR.ext {E E' : Em} (hE : Ext E E') : ∀ {xs : List (FuncId × List Value)} {ys : List Deferred}, DR E xs ys → DR E' xs ys
  | [], [], _ => trivial
  | _ :: _, _ :: _, ⟨⟨cap, args, h1, h2⟩, h⟩ => ⟨⟨cap, args, h1, h2.ext hE⟩, DR.ext hE h⟩
  | [], _ :: _, h => h.elim
  | _ :: _, [], h => h.elim
def AX.out : AX → Exit
  | .normal => .normal
  | .exit i => .exit i
  | .ret => .ret
def Fresh (E : Em) (n n' : Nat) : Prop := ∀ b, n ≤ b → b < n' → E b = none
theorem GL.ext {E E' : Em} {G : Gl} (h : GL E G) (hE : Ext E E') : GL E' G := fun g hg => let ⟨e, h1, h2⟩ := h g hg; ⟨e, hE _ _ h1, h2⟩
theorem TR.ext {E E' : Em} {f : AF} {a : Act} (h : TR E f a) (hE : Ext E E') : TR E' f a := ⟨h.size, fun t => (h.get t).ext hE⟩
theorem Fresh.one {E : Em} {n n' : Nat} (h : Fresh E n n') (hn : n < n') : E n = none := h n (Nat.le_refl n) hn
theorem Fresh.after {E E' : Em} {h h' : Hp} {w w' : World} {n n' n'' : Nat} {l : List Nat} (F : Fresh E n n'') (T : Tx E h w n E' h' w' n' l) : Fresh E' n' n'' := by
  intro b h1 h2
  cases hb : E' b with
  | none => rfl
  | some e =>
    have := T.le
    rcases T.dom b e hb with h3 | h3
    · rw [F b (by omega) h2] at h3; cases h3
    · omega
theorem Fresh.sub {E : Em} {n n' m m' : Nat} (F : Fresh E n n') (h1 : n ≤ m) (h2 : m' ≤ n') : Fresh E m m' := fun b h3 h4 => F b (by omega) (by omega)

section
variable {P : Program} {E : Em} {w : World}
theorem AF.put_spec {f f' : AF} {t : Nat} {v : Value} (h : f.put t v = some f') : t < f.size ∧ f'.size = f.size ∧ f'.defers = f.defers ∧ ∀ j, f'.get j = if j = t then v else f.get j := by
  rw [AF.put_old] at h
  split at h
  · rename_i h1 h2
    cases h
    have h1 : t < f.size := by simpa [Nat.blt_eq] using h1
    have h2 := ble_le h2
    refine ⟨h1, rfl, rfl, fun j => ?_⟩
    unfold AF.get
    by_cases hj : j = t
    · subst hj
      rw [if_pos rfl]
      show ((f.tmps.set deep j (some v)).get j).getD undef = v
      rw [Tr.get_set _ _ _ (by unfold deep; unfold lim at h2; omega)]
      rfl
    · rw [if_neg hj]
      show ((f.tmps.set deep t (some v)).get j).getD undef = _
      rw [Tr.get_set_ne _ _ _ _ hj]
  · cases h
theorem AF.putO_spec {f f' : AF} {d : Option Nat} {v : Value} (h : f.putO d v = some f') : f'.size = f.size ∧ f'.defers = f.defers ∧ ∀ j, f'.get j = if d = some j then v else f.get j := by
  cases d with
  | none => cases h; exact ⟨rfl, rfl, fun j => by simp⟩
  | some t =>
    obtain ⟨_, h1, h2, h3⟩ := AF.put_spec h
    refine ⟨h1, h2, fun j => ?_⟩
    rw [h3 j]
    by_cases hj : j = t
    · subst hj; simp
    · rw [if_neg hj, if_neg (by simpa using Ne.symm hj)]
theorem act_put_get (a : Act) (d : Option Nat) (v : Value) (t : Nat) (hd : ∀ d', d = some d' → d' < a.tmps.size) : (a.put d v).tmps.getD t undef = if d = some t then v else a.tmps.getD t undef := by
  cases d with
  | none => simp [Act.put]
  | some d =>
    have hlt := hd d rfl
    simp only [Act.put, Array.getD_eq_getD_getElem?]
    by_cases ht : d = t
    · subst ht
      rw [if_pos rfl, Array.getElem?_setIfInBounds]
      simp [hlt]
    · rw [if_neg (by simpa using ht), Array.getElem?_setIfInBounds_ne ht]
theorem act_put_size (a : Act) (d : Option Nat) (v : Value) : (a.put d v).tmps.size = a.tmps.size := by cases d <;> simp [Act.put]
theorem act_put_defers (a : Act) (d : Option Nat) (v : Value) : (a.put d v).defers = a.defers := by cases d <;> rfl
theorem putO_lt {f f' : AF} {d : Option Nat} {v : Value} (h : f.putO d v = some f') : ∀ d', d = some d' → d' < f.size := by
  intro d' hd
  subst hd
  exact (AF.put_spec h).1
theorem TR.put {f f' : AF} {a : Act} {d : Option Nat} {v v' : Value} (T : TR E f a) (h : f.putO d v = some f') (hv : VR E v v') : TR E f' (a.put d v') := by
  obtain ⟨h1, _, h2⟩ := AF.putO_spec h
  refine ⟨by rw [act_put_size, T.size, h1], fun t => ?_⟩
  rw [h2 t, act_put_get a d v' t fun d' hd => by rw [T.size]; exact putO_lt h d' hd]
  split
  · exact hv
  · exact T.get t

theorem not_bool {x y : Value} (h : VR E x y) {b : Bool} (hy : y = .bool b) : x = .bool b := by
  subst hy
  cases h; rfl
theorem wantedA_eq {ops : Array Oper} {f : AF} {a : Act} {o : Oper} (h : ∀ g wt t, o.guard = some (g, wt) → (ops[g]?).bind (·.dst) = some t → VR E (f.get t) (a.tmps.getD t undef)) :
    Region.wanted o (yielded ops a.tmps) = wantedA ops f o := by
  unfold Region.wanted wantedA
  cases hg : o.guard with
  | none => rfl
  | some gw =>
    obtain ⟨g, wt⟩ := gw
    simp only
    unfold yielded
    cases ht : (ops[g]?).bind (·.dst) with
    | none => simp
    | some t =>
      have hv := h g wt t hg ht
      simp only [Option.bind_some]
      have key : ∀ b, (a.tmps[t]? = some (.bool b)) ↔ f.get t = .bool b := by
        intro b
        constructor
        · intro hb
          refine not_bool hv ?_
          rw [Array.getD_eq_getD_getElem?, hb]
          rfl
        · intro hb
          rw [hb] at hv
          have := bool_inv hv
          rw [Array.getD_eq_getD_getElem?] at this
          cases hx : a.tmps[t]? with
          | none => rw [hx] at this; cases this
          | some y => rw [hx] at this; simp only [Option.getD_some] at this; rw [this]
      split
      · rename_i b hb
        rw [key] at hb
        rw [hb]
        cases b <;> cases wt <;> rfl
      · rename_i hnb
        split
        · rename_i b hb
          rw [← key] at hb
          exact absurd hb (hnb b)
        · cases wt <;> rfl
theorem loadsTmps_get : ∀ (l : List Value) (i : Nat) (t : Tr Value) (j : Nat), i + l.length ≤ lim → (loadsTmps l i t).get j = if i ≤ j ∧ j < i + l.length then l[j - i]? else t.get j
  | [], i, t, j, _ => by
    simp only [loadsTmps, List.length_nil, Nat.add_zero]
    rw [if_neg (by omega)]
  | v :: l, i, t, j, h => by
    simp only [List.length_cons] at h ⊢
    simp only [loadsTmps]
    rw [loadsTmps_get l (i + 1) _ j (by omega)]
    by_cases h1 : j = i
    · subst h1
      rw [if_neg (by omega), if_pos (by omega), Tr.get_set _ _ _ (by unfold deep; unfold lim at h; omega)]
      simp
    · rw [Tr.get_set_ne _ _ _ _ h1]
      by_cases h2 : i + 1 ≤ j ∧ j < i + 1 + l.length
      · rw [if_pos h2, if_pos (by omega)]
        have : j - i = (j - (i + 1)) + 1 := by omega
        rw [this, List.getElem?_cons_succ]
      · rw [if_neg h2, if_neg (by omega)]
theorem enterF_rel {fn : Func} {args : List Value} {args' : Array Value} (h : LR E args args'.toList) (hl : args.length ≤ lim) :
    TR E (enterF fn args) { tmps := args' ++ Array.replicate (fn.ntmps - args'.size) undef, defers := [] } := by
  have hs : args.length = args'.size := by simpa using h.length
  refine ⟨by simp [enterF, hs], fun t => ?_⟩
  unfold enterF AF.get
  simp only
  rw [loadsTmps_get args 0 .leaf t (by omega)]
  simp only [Nat.zero_le, true_and, Nat.zero_add, Nat.sub_zero, Tr.get_leaf, Array.getD_eq_getD_getElem?]
  by_cases ht : t < args.length
  · rw [if_pos ht, Array.getElem?_append_left (by omega)]
    obtain ⟨y, hy, hv⟩ := h.at t args[t] (by simp [ht])
    rw [Array.getElem?_toList] at hy
    rw [hy, List.getElem?_eq_getElem ht]
    exact hv
  · rw [if_neg ht, Array.getElem?_append_right (by omega)]
    have : ((Array.replicate (fn.ntmps - args'.size) undef)[t - args'.size]?).getD undef = undef := by
      rw [Array.getElem?_replicate]
      split <;> rfl
    rw [this]
    exact VR.undef

/-- a function's results -/
def resSem (a : Act) : ResultVar → Sem Value
  | .tmp t => pure (a.tmps.getD t undef)
  | .cell c t => do loadVar t (← asAddr (a.tmps.getD c undef))
theorem results_eq (fn : Func) (a : Act) : results fn a.tmps = (do let vs ← fn.results.mapM (resSem a); pure (if h : vs.size = 1 then vs[0] else .tuple vs)) := by
  have : (fun r : ResultVar => match r with
    | .tmp t => pure (a.tmps.getD t undef)
    | .cell c t => (do loadVar t (← asAddr (a.tmps.getD c undef)) : Sem Value)) = resSem a := by
    funext r
    cases r <;> rfl
  rw [← this]
  rfl
theorem resultA_run {f : AF} {s : HS} {a : Act} {r : ResultVar} {v : Value} (T : TR E f a) (H : HR E s.at w) (h : resultA P f s r = some v) :
    ∃ v', VR E v v' ∧ (resSem a r).run P w = .ok v' w := by
  cases r with
  | tmp t => cases h; exact ⟨_, T.get t, rfl⟩
  | cell c t =>
    have h' : loadA P s t (f.get c) = some v := h
    obtain ⟨v', h1, h2⟩ := loadA_run (P := P) h' H (T.get c)
    refine ⟨v', h1, ?_⟩
    have hp : ∃ b o, f.get c = .pointer (some ⟨b, o, none⟩) := by
      unfold loadA at h'
      split at h'
      · rename_i b o hp; exact ⟨b, o, ptrA_spec hp⟩
      · cases h'
    obtain ⟨b, o, hp⟩ := hp
    have hx := T.get c
    rw [hp] at hx
    obtain ⟨e, he, hx⟩ := ptr_inv hx
    show (do loadVar t (← asAddr (a.tmps.getD c undef)) : Sem Value).run P w = _
    rw [hx] at h2 ⊢
    simpa [Instr.loadAt, Instr.sureAddr, asAddr] using h2
theorem results_mapM {f : AF} {s : HS} {a : Act} (T : TR E f a) (H : HR E s.at w) : ∀ (l : List ResultVar) (vs : List Value), l.mapM (resultA P f s) = some vs →
    ∃ vs', LR E vs vs' ∧ (l.mapM (resSem a)).run P w = .ok vs' w
  | [], vs, h => by simp at h; subst h; exact ⟨[], trivial, rfl⟩
  | r :: l, vs, h => by
    simp only [List.mapM_cons, Option.bind_eq_bind, Option.pure_def] at h
    cases h1 : resultA P f s r with
    | none => simp [h1] at h
    | some v =>
      cases h2 : l.mapM (resultA P f s) with
      | none => simp [h1, h2] at h
      | some vs0 =>
        simp [h1, h2] at h
        subst h
        obtain ⟨v', k1, k2⟩ := resultA_run T H h1
        obtain ⟨vs', k3, k4⟩ := results_mapM T H l vs0 h2
        refine ⟨v' :: vs', ⟨k1, k3⟩, ?_⟩
        rw [List.mapM_cons, Sem.run_bind, k2]
        simp only [Result.andThen_ok]
        rw [Sem.run_bind, k4]
        rfl
theorem results_run {a : Act} {fn : Func} {vs' : List Value} (k2 : (fn.results.toList.mapM (resSem a)).run P w = .ok vs' w) : (results fn a.tmps).run P w = .ok (if h : vs'.toArray.size = 1 then vs'.toArray[0] else .tuple vs'.toArray) w := by
  have := congrArg (fun r => Result.andThen r fun a w => Result.ok (List.toArray a) w) k2
  simp only [Result.andThen_ok] at this
  rw [← Sem.run_map, ← List.mapM_toArray] at this
  simp only [Array.toArray_toList] at this
  rw [results_eq, Sem.run_bind, this]
  rfl
theorem resultsA_run {f : AF} {s : HS} {a : Act} {fn : Func} {v : Value} (T : TR E f a) (H : HR E s.at w) (h : resultsA P f s fn.results.toList = some v) :
    ∃ v', VR E v v' ∧ (results fn a.tmps).run P w = .ok v' w := by
  unfold resultsA at h
  split at h
  · rename_i v0 hm
    cases h
    obtain ⟨vs', k1, k2⟩ := results_mapM T H _ _ hm
    obtain ⟨v', rfl, hv⟩ := one_of_lr k1
    exact ⟨v', hv, results_run k2⟩
  · rename_i vs hne hm
    cases h
    obtain ⟨vs', k1, k2⟩ := results_mapM T H _ _ hm
    refine ⟨.tuple vs'.toArray, VR.tuple' (by simpa using k1), ?_⟩
    have hl : ¬ vs'.toArray.size = 1 := by
      have := k1.length
      intro h1
      match vs, hne, this with
      | [], _, h => simp at h h1; omega
      | [x], hne, _ => exact hne x rfl
      | _ :: _ :: _, _, h => simp at h h1; omega
    rw [results_run k2, dif_neg hl]
  · cases h
end
end Go.Proofs.YtcnclcfglfgjlaaGreatDoor.Cx
