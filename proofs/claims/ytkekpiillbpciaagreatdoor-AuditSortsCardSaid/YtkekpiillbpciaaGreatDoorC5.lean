/- CxOps; CxOps2; CxCall; CxFrame; CxKnown: merged into one text: lemmas for the walk of the law. No condition. -/
import Derived.Test.YtkekpiillbpciaaGreatDoorC4
import Derived.Recover
/- A machine that runs a program's code on written inputs by computation alone, part 13: what an operation may change of the kept heap, and that it answers as the model's. No condition. -/
namespace Go.Proofs.YtkekpiillbpciaaGreatDoor.Cx
open Go

/-- how the kept heap moves -/
inductive Moves (s s' : HS) : Prop where
  | stay : s' = s → Moves s s'
  | new (o : AObj) : s.new o = some s' → Moves s s'
  | put (b : Nat) (o : AObj) : s.put b o = some s' → Moves s s'
  | take (b : Nat) (o : AObj) : s.take b o = some s' → Moves s s'
  | drop (b : Nat) : s.drop b = some s' → Moves s s'
/-- names that are neither made nor touched keep their objects -/
structure Keeps (s s' : HS) (l : List Nat) : Prop where
  le : s.next ≤ s'.next
  log : s'.log = l ++ s.log
  keep : ∀ b, (b < s.next ∨ s'.next ≤ b) → b ∉ l → s'.at b = s.at b
theorem Keeps.refl (s : HS) : Keeps s s [] := ⟨Nat.le_refl _, rfl, fun _ _ _ => rfl⟩
theorem Keeps.trans {s t u : HS} {l m : List Nat} (A : Keeps s t l) (B : Keeps t u m) : Keeps s u (m ++ l) := by
  have a := A.le
  have b := B.le
  refine ⟨by omega, by rw [B.log, A.log, List.append_assoc], fun c hc hl => ?_⟩
  simp only [List.mem_append, not_or] at hl
  rw [B.keep c (by omega) hl.1, A.keep c (by omega) hl.2]
theorem Moves.keeps {s s' : HS} (h : Moves s s') : ∃ l, Keeps s s' l := by
  cases h with
  | stay h => subst h; exact ⟨[], Keeps.refl _⟩
  | new o h =>
    obtain ⟨h1, h2, h3⟩ := HS.new_spec h
    refine ⟨[], by omega, by simpa using h3, fun b hb _ => ?_⟩
    rw [h1]; unfold upd; rw [if_neg (by omega)]
  | put b o h =>
    obtain ⟨h1, h2, h3⟩ := HS.put_spec h
    refine ⟨[b], by omega, by simpa using h3, fun c _ hl => ?_⟩
    rw [h1]; unfold upd; rw [if_neg (by simpa using hl)]
  | take b o h =>
    obtain ⟨h1, h2, h3⟩ := HS.take_spec h
    refine ⟨[b], by omega, by simpa using h3, fun c hc hl => ?_⟩
    rw [h1]; unfold upd; rw [if_neg (by omega), if_neg (by simpa using hl)]
  | drop b h =>
    obtain ⟨h1, h2, h3⟩ := HS.drop_spec h
    refine ⟨[b], by omega, by simpa using h3, fun c _ hl => ?_⟩
    rw [h1]; unfold upd; rw [if_neg (by simpa using hl)]
theorem storeRow_moves {s s' : HS} {b o : Nat} {vs : List Value} (h : storeRow s b o vs = some s') : Moves s s' := by
  unfold storeRow at h
  simp only [spliceK_eq] at h
  split at h <;> first | (cases h; done) | skip
  split at h <;> first | (cases h; done) | skip
  split at h <;> first | (cases h; done) | skip
  exact .put _ _ h
theorem newRowA_moves {s s' : HS} {e z len cap : Nat} {cs : List Value} {r : Value} (h : newRowA s e z cs len cap = some (r, s')) : Moves s s' := by
  unfold newRowA at h
  split at h <;> first | (cases h; done) | skip
  rename_i hn
  cases h
  exact .new _ hn
theorem newVarA_moves {s s' : HS} {t : Nat} {v r : Value} (h : newVarA s t v = some (r, s')) : Moves s s' := by
  unfold newVarA at h
  split at h <;> first | (cases h; done) | skip
  rename_i hn
  cases h
  exact .new _ hn
section
variable {P : Program}
theorem storeA_moves {s s' : HS} {t : Nat} {x v : Value} (h : storeA P s t x v = some s') : Moves s s' := by
  unfold storeA at h
  split at h <;> first | (cases h; done) | skip
  split at h <;> first | (cases h; done) | skip
  exact storeRow_moves h
theorem buildSliceA_moves {s s' : HS} {t len : Nat} {parts : Array (Nat × Value)} {r : Value} (h : buildSliceA P s t len parts = some (r, s')) : Moves s s' := by
  unfold buildSliceA at h
  repeat' (split at h <;> first | (cases h; done) | (exact newRowA_moves h) | skip)
theorem makeSliceA_moves {s s' : HS} {t : Nat} {l c : Value} {r : Value} (h : makeSliceA P s t l c = some (r, s')) : Moves s s' := by
  unfold makeSliceA at h
  repeat' (split at h <;> first | (cases h; done) | (exact newRowA_moves h) | skip)
theorem appendTo_moves {s s' : HS} {e z n : Nat} {new : List Value} {x r : Value} (h : appendTo s e z n new x = some (r, s')) : Moves s s' := by
  unfold appendTo at h
  simp only [apK_eq] at h
  repeat' (split at h <;> first | (cases h; done) | (exact newRowA_moves h) | skip)
  all_goals first | (cases h; exact .stay rfl) | skip
  all_goals first | (rename_i hs; cases h; exact .take _ _ hs) | (rename_i hs; cases h; exact storeRow_moves hs)
theorem appendA_moves {s s' : HS} {t u : Nat} {x y r : Value} (h : appendA P s t u x y = some (r, s')) : Moves s s' := by
  unfold appendA at h
  repeat' (split at h <;> first | (cases h; done) | (exact appendTo_moves h) | skip)
theorem copyA_moves {s s' : HS} {t : Nat} {x y r : Value} (h : copyA P s t x y = some (r, s')) : Moves s s' := by
  unfold copyA at h
  repeat' (split at h <;> first | (cases h; done) | skip)
  all_goals first | (rename_i hs; cases h; exact storeRow_moves hs) | (cases h; exact .stay rfl)
theorem convA_moves {s s' : HS} {src dst : Nat} {x r : Value} (h : convA P s src dst x = some (r, s')) : Moves s s' := by
  unfold convA at h
  repeat' (split at h <;> first | (cases h; done) | (exact newRowA_moves h) | skip)
  all_goals (cases h; exact .stay rfl)
theorem unStrA_moves {s s' : HS} {pt : Nat} {x n r : Value} (h : unStrA P s pt x n = some (r, s')) : Moves s s' := by
  unfold unStrA at h
  repeat' (split at h <;> first | (cases h; done) | skip)
  rename_i hs
  cases h
  exact .drop _ hs
theorem mapUpdateA_moves {s s' : HS} {t : Nat} {m k v : Value} (h : mapUpdateA P s t m k v = some s') : Moves s s' := by
  unfold mapUpdateA at h
  simp only [forceS_eq, forceN_eq] at h
  repeat' (split at h <;> first | (cases h; done) | (exact .put _ _ h) | skip)
theorem someV_val {s s' : HS} {x : Option Value} {v : Value} (h : someV s x = some (.val v s')) : x = some v ∧ s' = s := by
  unfold someV at h
  split at h <;> cases h
  exact ⟨rfl, rfl⟩
theorem pairV_val {s' : HS} {x : Option (Value × HS)} {v : Value} (h : pairV x = some (.val v s')) : x = some (v, s') := by
  unfold pairV at h
  split at h <;> cases h
  rfl
theorem unitV_val {s' : HS} {x : Option HS} {v : Value} (h : unitV x = some (.val v s')) : x = some s' ∧ v = undef := by
  unfold unitV at h
  split at h <;> cases h
  exact ⟨rfl, rfl⟩
theorem someV_enter {s : HS} {x : Option Value} {g : Nat} {args : List Value} (h : someV s x = some (.enter g args)) : False := by
  unfold someV at h
  split at h <;> cases h
theorem pairV_enter {x : Option (Value × HS)} {g : Nat} {args : List Value} (h : pairV x = some (.enter g args)) : False := by
  unfold pairV at h
  split at h <;> cases h
theorem unitV_enter {x : Option HS} {g : Nat} {args : List Value} (h : unitV x = some (.enter g args)) : False := by
  unfold unitV at h
  split at h <;> cases h
theorem externA_val {s s' : HS} {g : Nat} {args : List Value} {v : Value} (h : externA P s g args = some (.val v s')) : s' = s ∧ (∀ x ∈ args, bare x = true) ∧ bare v = true ∧ ∀ w, (callFunc g args.toArray).run P w = .ok (.value v) w := by
  unfold externA at h
  split at h <;> first | (cases h; done) | skip
  rename_i hb
  split at h <;> first | (cases h; done) | skip
  rename_i r hp
  split at h <;> first | (cases h; done) | skip
  rename_i hr
  cases h
  exact ⟨rfl, List.all_eq_true.1 hb, hr, fun w => pureRun_run _ _ hp w⟩
theorem externA_enter {s : HS} {g g' : Nat} {args args' : List Value} (h : externA P s g args = some (.enter g' args')) : False := by
  unfold externA at h
  split at h <;> first | (cases h; done) | skip
  split at h <;> first | (cases h; done) | skip
  split at h <;> cases h
theorem callA_spec {s : HS} {g g' : Nat} {args args' : List Value} (h : callA P s g args = some (.enter g' args')) : g' = g ∧ args' = args ∧ ∃ fn c, P.funcs[g]? = some fn ∧ fn.body = some c ∧ (fn.name == "runtime.NumGoroutine") = false := by
  unfold callA at h
  split at h
  · rename_i fn hf
    split at h
    · rename_i c hn hb
      cases h
      exact ⟨rfl, rfl, fn, c, hf, hb, hn⟩
    · split at h
      · cases h
      · split at h
        · split at h
          · exact (pairV_enter h).elim
          · cases h
        · exact (externA_enter h).elim
    · cases h
  · cases h
theorem callA_moves {s s' : HS} {g : Nat} {args : List Value} {v : Value} (h : callA P s g args = some (.val v s')) : Moves s s' := by
  unfold callA at h
  split at h
  · split at h
    · cases h
    · split at h
      · cases h; exact .stay rfl
      · split at h
        · split at h
          · exact newRowA_moves (pairV_val h)
          · cases h
        · exact .stay (externA_val h).1
    · cases h
  · cases h
theorem onlyEnter_val {x : Option AR} {v : Value} {s : HS} (h : onlyEnter x = some (.val v s)) : False := by
  unfold onlyEnter at h
  split at h <;> cases h
theorem onlyEnter_enter {x : Option AR} {g : Nat} {args : List Value} (h : onlyEnter x = some (.enter g args)) : x = some (.enter g args) := by
  unfold onlyEnter at h
  split at h <;> cases h
  rfl

theorem runOp_moves {G : Gl} {f : AF} {s s' : HS} {o : Oper} {v : Value} (h : runOp P G f s o = some (.val v s')) : Moves s s' := by
  unfold runOp at h
  split at h
  · cases h
  · split at h
    · cases h; exact .stay rfl
    · split at h
      · exact .stay (someV_val h).2
      · exact storeA_moves (unitV_val h).1
      · split at h
        · exact newVarA_moves (pairV_val h)
        · cases h
      · exact .stay (someV_val h).2
      · exact newVarA_moves (pairV_val h)
      · exact buildSliceA_moves (buildSliceF_old (pairV_val h))
      · exact makeSliceA_moves (pairV_val h)
      · split at h
        · cases h; exact .stay rfl
        · exact convA_moves (pairV_val h)
      · split at h
        · rename_i hn; cases h; exact .new _ hn
        · cases h
      · exact .stay (someV_val h).2
      · exact mapUpdateA_moves (unitV_val h).1
      · split at h
        · exact appendA_moves (pairV_val h)
        · exact copyA_moves (pairV_val h)
        · exact .stay (someV_val h).2
        · exact unStrA_moves (pairV_val h)
        · split at h
          · exact callA_moves h
          · cases h
        · split at h
          · split at h
            · exact (onlyEnter_val h).elim
            · cases h
          · cases h
        · cases h
      · cases h

/-- what an operation that does not call yields -/
def Does (P : Program) (E : Em) (s s' : HS) (w : World) (v : Value) (x : Sem Next) : Prop :=
  ∃ l, s'.log = l ++ s.log ∧ ∃ E' v' w' nx, x.run P w = .ok nx w' ∧ (nx = .value v' ∨ (nx = .skip ∧ v' = undef)) ∧ VR E' v v' ∧ Tx E s.at w s.next E' s'.at w' s'.next l
section
variable {E : Em} {w : World} {s s' : HS}
theorem does_same {v v' : Value} {x : Sem Value} (H : HR E s.at w) (hv : VR E v v') (hr : x.run P w = .ok v' w) : Does P E s s w v (do pure (.value (← x))) :=
  ⟨[], rfl, E, v', w, .value v', by simp [hr], .inl rfl, hv, Tx.refl _ H⟩
theorem does_new {r : Value} {x : Sem Value} (h : s'.next = s.next + 1 ∧ s'.log = s.log ∧ ∃ E' r' w', x.run P w = .ok r' w' ∧ VR E' r r' ∧ Tx E s.at w s.next E' s'.at w' (s.next + 1) []) : Does P E s s' w r (do pure (.value (← x))) := by
  obtain ⟨h1, h2, E', r', w', h3, h4, h5⟩ := h
  exact ⟨[], by simpa using h2, E', r', w', .value r', by simp [h3], .inl rfl, h4, by rw [h1]; exact h5⟩
theorem does_unit {x : Sem Unit} (h : s'.next = s.next ∧ ∃ b, s'.log = b :: s.log ∧ ∃ w', x.run P w = .ok () w' ∧ Tx E s.at w s.next E s'.at w' s.next [b]) : Does P E s s' w undef (do x; pure .skip) := by
  obtain ⟨h1, b, h2, w', h3, h4⟩ := h
  exact ⟨[b], by simpa using h2, E, undef, w', .skip, by simp [h3], .inr ⟨rfl, rfl⟩, VR.undef, by rw [h1]; exact h4⟩
theorem does_makes {r : Value} {x : Sem Value} (h : Makes P E s s' w r x) : Does P E s s' w r (do pure (.value (← x))) := by
  obtain ⟨l, h1, _, E', r', w', h3, h4, h5⟩ := h
  exact ⟨l, h1, E', r', w', .value r', by simp [h3], .inl rfl, h4, h5⟩
/-- functions without a body -/
theorem callA_does {g : Nat} {args : List Value} {args' : Array Value} {v : Value} (h : callA P s g args = some (.val v s')) (H : HR E s.at w) (hf : s.next < s'.next → E s.next = none) (hl : LR E args args'.toList) :
    Does P E s s' w v (callFunc g args') := by
  unfold callA at h
  split at h
  · rename_i fn hfn
    split at h
    · cases h
    · rename_i hn hb
      split at h
      · rename_i b o hname
        cases h
        rw [Bool.and_eq_true] at hname
        obtain ⟨y, hy, hv⟩ := one_of_lr hl
        obtain ⟨e, he, rfl⟩ := ptr_inv hv
        have ha : args' = #[.pointer (some ⟨e.blk, o, none⟩)] := by apply Array.toList_inj.1; rw [hy]
        refine ⟨[], rfl, E, _, w, _, ?_, .inl rfl, VR.ptr b o e he, Tx.refl _ H⟩
        rw [ha]
        exact noEscape_run hfn (by simpa using hname.1) (by simpa using hname.2) hb _ w
      · split at h
        · rename_i i t hname ht _
          split at h
          · rename_i e n hu hi
            have h1 := pairV_val h
            rw [Bool.and_eq_true] at hname
            obtain ⟨rfl, hmax⟩ := upTo_spec hi
            obtain ⟨y, hy, hv⟩ := one_of_lr hl
            obtain rfl := int_inv hv
            have ha : args' = #[.int .i64 (n : Int)] := by apply Array.toList_inj.1; rw [hy]
            have hres : fn.resultTypes = #[t] := by apply Array.toList_inj.1; rw [ht]
            obtain ⟨cs, hrun, hle, hml⟩ := Lib.run_makeNoZero (P := P) w fn.params t e hu n (by omega)
            have hsn : s'.next = s.next + 1 := by
              unfold newRowA at h1
              split at h1
              · rename_i s2 hn2; cases h1; exact (HS.new_spec hn2).2.1
              · cases h1
            have hH : HR E s.at w.drew.drew := H.world rfl
            obtain ⟨k1, k2, E', k3, k4⟩ := newRowA_run (w := w.drew.drew) (cur := cs) (fz := (0, 0)) (cap' := cs.size) h1 hH (hf (by omega)) (by simp) (by simp [LR]) (.inl rfl) (.inr ⟨rfl, by omega⟩) hle (by omega) (by
              have := hml (by unfold maxLen; omega)
              unfold maxLen at this
              unfold unk
              omega)
            refine ⟨[], by simpa using k2, E', .slice (some ⟨w.drew.drew.heap.size, 0, none⟩) n cs.size, { w.drew.drew with heap := w.drew.drew.heap.push (.cells cs e (0, 0)) }, .value (.slice (some ⟨w.drew.drew.heap.size, 0, none⟩) n cs.size), ?_, .inl rfl, k3, ?_⟩
            · rw [ha]
              exact makeNoZero_run hfn (by simpa using hname.1) (by simpa using hname.2) hb hres hrun
            · rw [k1]
              exact k4.drewL.drewL
          · cases h
        · obtain ⟨rfl, h2, h3, h4⟩ := externA_val h
          have heq := arr_eq_of_lr hl fun x hx y hv => bare_eq (h2 x hx) hv
          have harr : args' = args'.toList.toArray := by simp
          refine ⟨[], rfl, E, v, w, _, ?_, .inl rfl, bare_self v h3, Tx.refl _ H⟩
          rw [harr, heq]
          exact h4 w
    · cases h
  · cases h
theorem ov_map {x : Option Operand} {σ ρ : Operand → Value} (h : ∀ z, x = some z → VR E (σ z) (ρ z)) : OV E (x.map σ) (x.map ρ) := by
  cases x with
  | none => trivial
  | some z => exact h z rfl
end
end
end Go.Proofs.YtkekpiillbpciaaGreatDoor.Cx

/- A machine that runs a program's code on written inputs by computation alone, part 14: every operation answers as the model's. No condition. -/
namespace Go.Proofs.YtkekpiillbpciaaGreatDoor.Cx
open Go

section
variable {P : Program} {E : Em} {w : World} {s s' : HS}
theorem two_of_lr {x y : Value} {q : List Value} (h : LR E [x, y] q) : ∃ x' y', q = [x', y'] ∧ VR E x x' ∧ VR E y y' := by
  cases q with
  | nil => exact h.elim
  | cons a q =>
    obtain ⟨b, rfl, hb⟩ := one_of_lr h.2
    exact ⟨a, b, rfl, h.1, hb⟩
theorem runOp_does {G : Gl} {f : AF} {o : Oper} {v : Value} {ρ : Operand → Value} (h : runOp P G f s o = some (.val v s')) (H : HR E s.at w) (hr : ∀ z ∈ o.op.operands, VR E (ev f z) (ρ z))
    (hf : s.next < s'.next → E s.next = none) : Does P E s s' w v (execOp ρ o) := by
  unfold runOp at h
  split at h
  · cases h
  · rename_i hok
    clear hok
    split at h
    · rename_i v0 hv0
      cases h
      obtain ⟨v', h1, h2⟩ := heapless_run hv0 hr
      exact ⟨[], rfl, E, v', w, .value v', h2 w, .inl rfl, h1, Tx.refl _ H⟩
    · rename_i hnone
      clear hnone
      obtain ⟨dst, op, type, pos, after, guard⟩ := o
      simp only at h hr
      split at h
      · rename_i t x
        obtain ⟨h1, rfl⟩ := someV_val h
        obtain ⟨v', h2, h3⟩ := loadA_run (P := P) h1 H (hr x (by simp [Op.operands]))
        exact does_same H h2 h3
      · rename_i t x y
        obtain ⟨h1, rfl⟩ := unitV_val h
        exact does_unit (storeA_run (P := P) h1 H (hr x (by simp [Op.operands])) (hr y (by simp [Op.operands])))
      · rename_i t
        split at h
        · rename_i z hz
          have h1 := pairV_val h
          obtain ⟨hzr, hzb, _⟩ := zeroT_run hz
          have hn : s'.next = s.next + 1 := by
            unfold newVarA at h1
            split at h1
            · rename_i s2 hn2; cases h1; exact (HS.new_spec hn2).2.1
            · cases h1
          obtain ⟨k1, k2, E', r', w', k3, k4, k5⟩ := newVarA_run (P := P) h1 H (hf (by omega)) (bare_self z hzb)
          exact does_new ⟨k1, k2, E', .pointer (some r'), w', by simp [Instr.alloc, hzr, k3], k4, k5⟩
        · cases h
      · rename_i t x lo hi mx
        obtain ⟨h1, rfl⟩ := someV_val h
        obtain ⟨v', h2, h3⟩ := sliceA_run (P := P) h1 H (hr x (by simp [Op.operands])) (ov_map (ρ := ρ) fun z hz => hr z (by simp [Op.operands, hz])) (ov_map (ρ := ρ) fun z hz => hr z (by simp [Op.operands, hz]))
          (ov_map (ρ := ρ) fun z hz => hr z (by simp [Op.operands, hz]))
        exact does_same H h2 h3
      · rename_i t x
        have h1 := pairV_val h
        have hn : s'.next = s.next + 1 := by
          unfold newVarA at h1
          split at h1
          · rename_i s2 hn2; cases h1; exact (HS.new_spec hn2).2.1
          · cases h1
        obtain ⟨k1, k2, E', r', w', k3, k4, k5⟩ := newVarA_run (P := P) h1 H (hf (by omega)) (hr x (by simp [Op.operands]))
        exact does_new ⟨k1, k2, E', .pointer (some r'), w', by simp [Instr.box, k3], k4, k5⟩
      · rename_i t n parts
        have h1 := buildSliceF_old (pairV_val h)
        obtain ⟨l, hl⟩ := (buildSliceA_moves h1).keeps
        have hn : s'.next = s.next + 1 := by
          unfold buildSliceA newRowA at h1
          repeat' (split at h1 <;> first | (cases h1; done) | skip)
          all_goals (rename_i hs; first | (cases h1; exact (HS.new_spec hs).2.1) | skip)
          all_goals (split at hs <;> first | (cases hs; done) | skip)
        refine does_new (buildSliceA_run (P := P) h1 H (hf (by omega)) ?_)
        simp only [Array.toList_map]
        exact pl_map _ fun p hp => hr p.2 (by
          simp only [Op.operands, List.mem_toArray, List.mem_map]
          exact ⟨p, hp, rfl⟩)
      · rename_i t l c
        have h1 := pairV_val h
        have hn : s'.next = s.next + 1 := by
          unfold makeSliceA newRowA at h1
          repeat' (split at h1 <;> first | (cases h1; done) | skip)
          all_goals (rename_i hs; first | (cases h1; exact (HS.new_spec hs).2.1) | skip)
        exact does_new (makeSliceA_run (P := P) h1 H (hf (by omega)) (hr l (by simp [Op.operands])) (hr c (by simp [Op.operands])))
      · rename_i src dst x
        split at h
        · rename_i v1 hv1
          cases h
          obtain ⟨v', h2, h3⟩ := convPtrA_run (P := P) hv1 H (hr x (by simp [Op.operands]))
          exact does_same H h2 h3
        · have h1 := pairV_val h
          exact does_makes (convA_run (P := P) h1 H hf (hr x (by simp [Op.operands])))
      · rename_i t
        split at h
        · rename_i s1 hn
          cases h
          exact does_new (makeMap_run (P := P) hn H (hf (by have := (HS.new_spec hn).2.1; omega)))
        · cases h
      · rename_i t m k ok
        obtain ⟨h1, rfl⟩ := someV_val h
        obtain ⟨v', h2, h3⟩ := lookupA_run (P := P) h1 H (hr m (by simp [Op.operands])) (hr k (by simp [Op.operands]))
        exact does_same H h2 h3
      · rename_i t m k v0
        obtain ⟨h1, rfl⟩ := unitV_val h
        exact does_unit (mapUpdateA_run (P := P) h1 H (hr m (by simp [Op.operands])) (hr k (by simp [Op.operands])) (hr v0 (by simp [Op.operands])))
      · rename_i c
        obtain ⟨callee, args, ts⟩ := c
        simp only at h
        have hargs : ∀ p ∈ args.toList, VR E (ev f p) (ρ p) := fun p hp => hr p (by cases callee <;> simp [Op.operands, Call.operands, Array.mem_toList_iff.1 hp])
        have hl := lr_map (E := E) args.toList hargs
        split at h
        · rename_i x y t u e1 e2
          have h1 := pairV_val h
          rw [e1] at hl
          obtain ⟨x', y', e3, hx, hy⟩ := two_of_lr hl
          have ha : args.map ρ = #[x', y'] := by apply Array.toList_inj.1; rw [Array.toList_map, e3]
          have ht : ts = #[t, u] := by apply Array.toList_inj.1; rw [e2]
          have := does_makes (appendA_run (P := P) (ty := type) h1 H hf hx hy)
          have he : execOp ρ ⟨dst, .call ⟨.builtin .append, args, ts⟩, type, pos, after, guard⟩ = (do pure (.value (← Builtin.append_ #[t, u] type #[x', y']))) := by
            simp [execOp, resolve, invoke, builtin, ha, ht]
          rw [he]
          exact this
        · rename_i x y t tr e1 e2
          have h1 := pairV_val h
          rw [e1] at hl
          obtain ⟨x', y', e3, hx, hy⟩ := two_of_lr hl
          have ha : args.map ρ = #[x', y'] := by apply Array.toList_inj.1; rw [Array.toList_map, e3]
          have := does_makes (copyA_run (P := P) (ty := type) h1 e2 H hx hy)
          have he : execOp ρ ⟨dst, .call ⟨.builtin .copy, args, ts⟩, type, pos, after, guard⟩ = (do pure (.value (← Builtin.copy_ ts type #[x', y']))) := by
            simp [execOp, resolve, invoke, builtin, ha]
          rw [he]
          exact this
        · rename_i m t e1 e2
          obtain ⟨h1, rfl⟩ := someV_val h
          rw [e1] at hl
          obtain ⟨m', e3, hm⟩ := one_of_lr hl
          have ha : args.map ρ = #[m'] := by apply Array.toList_inj.1; rw [Array.toList_map, e3]
          have ht : ts = #[t] := by apply Array.toList_inj.1; rw [e2]
          obtain ⟨v', h2, h3⟩ := lenMapA_run (P := P) (ty := type) h1 H hm
          have := does_same H h2 h3
          have he : execOp ρ ⟨dst, .call ⟨.builtin .len, args, ts⟩, type, pos, after, guard⟩ = (do pure (.value (← Builtin.len_ #[t] type #[m']))) := by
            simp [execOp, resolve, invoke, builtin, ha, ht]
          rw [he]
          exact this
        · rename_i x n t u e1 e2
          have h1 := pairV_val h
          rw [e1] at hl
          obtain ⟨x', n', e3, hx, hn⟩ := two_of_lr hl
          have ha : args.map ρ = #[x', n'] := by apply Array.toList_inj.1; rw [Array.toList_map, e3]
          have ht : ts = #[t, u] := by apply Array.toList_inj.1; rw [e2]
          have := does_makes (unStrA_run (P := P) (it := u) (ty := type) h1 H hx hn)
          have he : execOp ρ ⟨dst, .call ⟨.builtin .unsafeString, args, ts⟩, type, pos, after, guard⟩ = (do pure (.value (← Builtin.unsafeString_ #[t, u] type #[x', n']))) := by
            simp [execOp, resolve, invoke, builtin, ha, ht]
          rw [he]
          exact this
        · rename_i x
          have hx := hr x (by simp [Op.operands, Call.operands])
          split at h
          · rename_i g1 first captured e1
            rw [e1] at hx
            obtain ⟨first', captured', e2, l1, l2⟩ := hx.func_inv
            have hL : LR E (first.toList ++ args.toList.map (ev f) ++ captured.toList) (first' ++ args.map ρ ++ captured').toList := by
              simp only [Array.toList_append, Array.toList_map]
              exact (l1.append hl).append l2
            have he : execOp ρ ⟨dst, .call ⟨.value x, args, ts⟩, type, pos, after, guard⟩ = callFunc g1 (first' ++ args.map ρ ++ captured') := by
              simp [execOp, resolve, e2, Deferred.ofValue, invoke]
            rw [he]
            exact callA_does h H hf hL
          · cases h
        · split at h
          · split at h
            · exact (onlyEnter_val h).elim
            · cases h
          · cases h
        · cases h
      · cases h
/-- an operation that calls a function of the program -/
theorem runOp_enters {G : Gl} {f : AF} {o : Oper} {g : Nat} {args : List Value} {ρ : Operand → Value} (h : runOp P G f s o = some (.enter g args)) (hr : ∀ z ∈ o.op.operands, VR E (ev f z) (ρ z)) :
    ∃ args' : Array Value, LR E args args'.toList ∧ ∀ w, (execOp ρ o).run P w = .ok (.enter g args') w := by
  unfold runOp at h
  split at h
  · cases h
  · rename_i hok
    clear hok
    split at h
    · cases h
    · rename_i hnone
      clear hnone
      obtain ⟨dst, op, type, pos, after, guard⟩ := o
      simp only at h hr
      split at h
      · exact (someV_enter h).elim
      · exact (unitV_enter h).elim
      · split at h
        · exact (pairV_enter h).elim
        · cases h
      · exact (someV_enter h).elim
      · exact (pairV_enter h).elim
      · exact (pairV_enter h).elim
      · exact (pairV_enter h).elim
      · split at h
        · cases h
        · exact (pairV_enter h).elim
      · split at h <;> cases h
      · exact (someV_enter h).elim
      · exact (unitV_enter h).elim
      · rename_i c
        obtain ⟨callee, cargs, ts⟩ := c
        simp only at h
        have hargs : ∀ p ∈ cargs.toList, VR E (ev f p) (ρ p) := fun p hp => hr p (by cases callee <;> simp [Op.operands, Call.operands, Array.mem_toList_iff.1 hp])
        have hl := lr_map (E := E) cargs.toList hargs
        split at h
        · exact (pairV_enter h).elim
        · exact (pairV_enter h).elim
        · exact (someV_enter h).elim
        · exact (pairV_enter h).elim
        · rename_i x
          have hx := hr x (by simp [Op.operands, Call.operands])
          split at h
          · rename_i g1 first captured e1
            obtain ⟨rfl, rfl, fn, c, hf, hb, hn⟩ := callA_spec h
            rw [e1] at hx
            obtain ⟨first', captured', e2, l1, l2⟩ := hx.func_inv
            refine ⟨first' ++ cargs.map ρ ++ captured', ?_, fun w => ?_⟩
            · simp only [Array.toList_append, Array.toList_map]
              exact (l1.append hl).append l2
            · have hn' : fn.name ≠ "runtime.NumGoroutine" := by simpa using hn
              simp [execOp, resolve, e2, Deferred.ofValue, invoke, callFunc, hf, hb, hn']
          · cases h
        · rename_i r name
          have hx := hr r (by simp [Op.operands, Call.operands])
          split at h
          · rename_i t v e1
            split at h
            · rename_i g1 hm
              obtain ⟨rfl, rfl, fn, c, hf, hb, hn⟩ := callA_spec (onlyEnter_enter h)
              rw [e1] at hx
              obtain ⟨v', e2, hv⟩ : ∃ v', ρ r = .iface t v' ∧ VR E v v' := by
                generalize ρ r = q at hx
                cases hx with
                | iface t v v' h => exact ⟨_, rfl, h⟩
              refine ⟨#[v'] ++ cargs.map ρ, ?_, fun w => ?_⟩
              · simp only [Array.toList_append, Array.toList_map]
                exact ⟨hv, hl⟩
              · have hn' : fn.name ≠ "runtime.NumGoroutine" := by simpa using hn
                have hmr := fun n => methodF_run (P := P) hm v' n w
                have he : (#[Value.iface t v'] ++ cargs.map ρ).extract 1 (#[Value.iface t v'] ++ cargs.map ρ).size = cargs.map ρ := by
                  apply Array.toList_inj.1
                  rw [Array.toList_extract]
                  simp
                  rw [List.take_of_length_le (by simp)]
                have h0 : (#[Value.iface t v'] ++ cargs.map ρ)[0]? = some (Value.iface t v') := by
                  rw [Array.getElem?_append_left (by simp)]
                  rfl
                have hm2 : (method (P.types.size + Made.depth) t v' name).run P w = .ok (g, v') w := hmr (P.types.size + 99)
                simp only [execOp, resolve, Sem.run_bind, Sem.run_pure, Result.andThen_ok, e2, invoke, h0, he, callMethod]
                simp [hm2, callFunc, hf, hb, hn']
            · cases h
          · cases h
        · cases h
      · cases h
end
end Go.Proofs.YtkekpiillbpciaaGreatDoor.Cx

/- A machine that runs a program's code on written inputs by computation alone, part 15: temporaries, deferred calls, calls. No condition. -/
namespace Go.Proofs.YtkekpiillbpciaaGreatDoor.Cx
open Go

/-- deferred calls -/
def DR (E : Em) : List (FuncId × List Value) → List Deferred → Prop
  | [], [] => True
  | x :: r, d :: ds => (∃ cap args, d = ⟨.fn (.func x.1) cap, args⟩ ∧ LR E x.2 (args ++ cap).toList) ∧ DR E r ds
  | _, _ => False
theorem DR.ext {E E' : Em} (hE : Ext E E') : ∀ {xs : List (FuncId × List Value)} {ys : List Deferred}, DR E xs ys → DR E' xs ys
  | [], [], _ => trivial
  | _ :: _, _ :: _, ⟨⟨cap, args, h1, h2⟩, h⟩ => ⟨⟨cap, args, h1, h2.ext hE⟩, DR.ext hE h⟩
  | [], _ :: _, h => h.elim
  | _ :: _, [], h => h.elim
def AX.out : AX → Exit
  | .normal => .normal
  | .exit i => .exit i
  | .ret => .ret
def Fresh (E : Em) (n n' : Nat) : Prop := ∀ b, n ≤ b → b < n' → E b = none
theorem GL.ext {E E' : Em} {G : Gl} (h : GL E G) (hE : Ext E E') : GL E' G := fun g hg => let ⟨e, h1, h2⟩ := h g hg; ⟨e, hE _ _ h1, h2⟩
theorem TR.ext {E E' : Em} {f : AF} {a : Act} (h : TR E f a) (hE : Ext E E') : TR E' f a := ⟨h.size, fun t => (h.get t).ext hE⟩
theorem Fresh.one {E : Em} {n n' : Nat} (h : Fresh E n n') (hn : n < n') : E n = none := h n (Nat.le_refl n) hn
theorem Fresh.after {E E' : Em} {h h' : Hp} {w w' : World} {n n' n'' : Nat} {l : List Nat} (F : Fresh E n n'') (T : Tx E h w n E' h' w' n' l) : Fresh E' n' n'' := by
  intro b h1 h2
  cases hb : E' b with
  | none => rfl
  | some e =>
    have := T.le
    rcases T.dom b e hb with h3 | h3
    · rw [F b (by omega) h2] at h3; cases h3
    · omega
theorem Fresh.sub {E : Em} {n n' m m' : Nat} (F : Fresh E n n') (h1 : n ≤ m) (h2 : m' ≤ n') : Fresh E m m' := fun b h3 h4 => F b (by omega) (by omega)

section
variable {P : Program} {E : Em} {w : World}
theorem AF.put_spec {f f' : AF} {t : Nat} {v : Value} (h : f.put t v = some f') : t < f.size ∧ f'.size = f.size ∧ f'.defers = f.defers ∧ ∀ j, f'.get j = if j = t then v else f.get j := by
  rw [AF.put_old] at h
  split at h
  · rename_i h1 h2
    cases h
    have h1 : t < f.size := by simpa [Nat.blt_eq] using h1
    have h2 := ble_le h2
    refine ⟨h1, rfl, rfl, fun j => ?_⟩
    unfold AF.get
    by_cases hj : j = t
    · subst hj
      rw [if_pos rfl]
      show ((f.tmps.set deep j (some v)).get j).getD undef = v
      rw [Tr.get_set _ _ _ (by unfold deep; unfold lim at h2; omega)]
      rfl
    · rw [if_neg hj]
      show ((f.tmps.set deep t (some v)).get j).getD undef = _
      rw [Tr.get_set_ne _ _ _ _ hj]
  · cases h
theorem AF.putO_spec {f f' : AF} {d : Option Nat} {v : Value} (h : f.putO d v = some f') : f'.size = f.size ∧ f'.defers = f.defers ∧ ∀ j, f'.get j = if d = some j then v else f.get j := by
  cases d with
  | none => cases h; exact ⟨rfl, rfl, fun j => by simp⟩
  | some t =>
    obtain ⟨_, h1, h2, h3⟩ := AF.put_spec h
    refine ⟨h1, h2, fun j => ?_⟩
    rw [h3 j]
    by_cases hj : j = t
    · subst hj; simp
    · rw [if_neg hj, if_neg (by simpa using Ne.symm hj)]
theorem act_put_get (a : Act) (d : Option Nat) (v : Value) (t : Nat) (hd : ∀ d', d = some d' → d' < a.tmps.size) : (a.put d v).tmps.getD t undef = if d = some t then v else a.tmps.getD t undef := by
  cases d with
  | none => simp [Act.put]
  | some d =>
    have hlt := hd d rfl
    simp only [Act.put, Array.getD_eq_getD_getElem?]
    by_cases ht : d = t
    · subst ht
      rw [if_pos rfl, Array.getElem?_setIfInBounds]
      simp [hlt]
    · rw [if_neg (by simpa using ht), Array.getElem?_setIfInBounds_ne ht]
theorem act_put_size (a : Act) (d : Option Nat) (v : Value) : (a.put d v).tmps.size = a.tmps.size := by cases d <;> simp [Act.put]
theorem act_put_defers (a : Act) (d : Option Nat) (v : Value) : (a.put d v).defers = a.defers := by cases d <;> rfl
theorem putO_lt {f f' : AF} {d : Option Nat} {v : Value} (h : f.putO d v = some f') : ∀ d', d = some d' → d' < f.size := by
  intro d' hd
  subst hd
  exact (AF.put_spec h).1
theorem TR.put {f f' : AF} {a : Act} {d : Option Nat} {v v' : Value} (T : TR E f a) (h : f.putO d v = some f') (hv : VR E v v') : TR E f' (a.put d v') := by
  obtain ⟨h1, _, h2⟩ := AF.putO_spec h
  refine ⟨by rw [act_put_size, T.size, h1], fun t => ?_⟩
  rw [h2 t, act_put_get a d v' t fun d' hd => by rw [T.size]; exact putO_lt h d' hd]
  split
  · exact hv
  · exact T.get t

theorem not_bool {x y : Value} (h : VR E x y) {b : Bool} (hy : y = .bool b) : x = .bool b := by
  subst hy
  cases h; rfl
theorem wantedA_eq {ops : Array Oper} {f : AF} {a : Act} {o : Oper} (h : ∀ g wt t, o.guard = some (g, wt) → (ops[g]?).bind (·.dst) = some t → VR E (f.get t) (a.tmps.getD t undef)) :
    Region.wanted o (yielded ops a.tmps) = wantedA ops f o := by
  unfold Region.wanted wantedA
  cases hg : o.guard with
  | none => rfl
  | some gw =>
    obtain ⟨g, wt⟩ := gw
    simp only
    unfold yielded
    cases ht : (ops[g]?).bind (·.dst) with
    | none => simp
    | some t =>
      have hv := h g wt t hg ht
      simp only [Option.bind_some]
      have key : ∀ b, (a.tmps[t]? = some (.bool b)) ↔ f.get t = .bool b := by
        intro b
        constructor
        · intro hb
          refine not_bool hv ?_
          rw [Array.getD_eq_getD_getElem?, hb]
          rfl
        · intro hb
          rw [hb] at hv
          have := bool_inv hv
          rw [Array.getD_eq_getD_getElem?] at this
          cases hx : a.tmps[t]? with
          | none => rw [hx] at this; cases this
          | some y => rw [hx] at this; simp only [Option.getD_some] at this; rw [this]
      split
      · rename_i b hb
        rw [key] at hb
        rw [hb]
        cases b <;> cases wt <;> rfl
      · rename_i hnb
        split
        · rename_i b hb
          rw [← key] at hb
          exact absurd hb (hnb b)
        · cases wt <;> rfl
theorem loadsTmps_get : ∀ (l : List Value) (i : Nat) (t : Tr Value) (j : Nat), i + l.length ≤ lim → (loadsTmps l i t).get j = if i ≤ j ∧ j < i + l.length then l[j - i]? else t.get j
  | [], i, t, j, _ => by
    simp only [loadsTmps, List.length_nil, Nat.add_zero]
    rw [if_neg (by omega)]
  | v :: l, i, t, j, h => by
    simp only [List.length_cons] at h ⊢
    simp only [loadsTmps]
    rw [loadsTmps_get l (i + 1) _ j (by omega)]
    by_cases h1 : j = i
    · subst h1
      rw [if_neg (by omega), if_pos (by omega), Tr.get_set _ _ _ (by unfold deep; unfold lim at h; omega)]
      simp
    · rw [Tr.get_set_ne _ _ _ _ h1]
      by_cases h2 : i + 1 ≤ j ∧ j < i + 1 + l.length
      · rw [if_pos h2, if_pos (by omega)]
        have : j - i = (j - (i + 1)) + 1 := by omega
        rw [this, List.getElem?_cons_succ]
      · rw [if_neg h2, if_neg (by omega)]
theorem enterF_rel {fn : Func} {args : List Value} {args' : Array Value} (h : LR E args args'.toList) (hl : args.length ≤ lim) :
    TR E (enterF fn args) { tmps := args' ++ Array.replicate (fn.ntmps - args'.size) undef, defers := [] } := by
  have hs : args.length = args'.size := by simpa using h.length
  refine ⟨by simp [enterF, hs], fun t => ?_⟩
  unfold enterF AF.get
  simp only
  rw [loadsTmps_get args 0 .leaf t (by omega)]
  simp only [Nat.zero_le, true_and, Nat.zero_add, Nat.sub_zero, Tr.get_leaf, Array.getD_eq_getD_getElem?]
  by_cases ht : t < args.length
  · rw [if_pos ht, Array.getElem?_append_left (by omega)]
    obtain ⟨y, hy, hv⟩ := h.at t args[t] (by simp [ht])
    rw [Array.getElem?_toList] at hy
    rw [hy, List.getElem?_eq_getElem ht]
    exact hv
  · rw [if_neg ht, Array.getElem?_append_right (by omega)]
    have : ((Array.replicate (fn.ntmps - args'.size) undef)[t - args'.size]?).getD undef = undef := by
      rw [Array.getElem?_replicate]
      split <;> rfl
    rw [this]
    exact VR.undef

/-- a function's results -/
def resSem (a : Act) : ResultVar → Sem Value
  | .tmp t => pure (a.tmps.getD t undef)
  | .cell c t => do loadVar t (← asAddr (a.tmps.getD c undef))
theorem results_eq (fn : Func) (a : Act) : results fn a.tmps = (do let vs ← fn.results.mapM (resSem a); pure (if h : vs.size = 1 then vs[0] else .tuple vs)) := by
  have : (fun r : ResultVar => match r with
    | .tmp t => pure (a.tmps.getD t undef)
    | .cell c t => (do loadVar t (← asAddr (a.tmps.getD c undef)) : Sem Value)) = resSem a := by
    funext r
    cases r <;> rfl
  rw [← this]
  rfl
theorem resultA_run {f : AF} {s : HS} {a : Act} {r : ResultVar} {v : Value} (T : TR E f a) (H : HR E s.at w) (h : resultA P f s r = some v) :
    ∃ v', VR E v v' ∧ (resSem a r).run P w = .ok v' w := by
  cases r with
  | tmp t => cases h; exact ⟨_, T.get t, rfl⟩
  | cell c t =>
    have h' : loadA P s t (f.get c) = some v := h
    obtain ⟨v', h1, h2⟩ := loadA_run (P := P) h' H (T.get c)
    refine ⟨v', h1, ?_⟩
    have hp : ∃ b o, f.get c = .pointer (some ⟨b, o, none⟩) := by
      unfold loadA at h'
      split at h'
      · rename_i b o hp; exact ⟨b, o, ptrA_spec hp⟩
      · cases h'
    obtain ⟨b, o, hp⟩ := hp
    have hx := T.get c
    rw [hp] at hx
    obtain ⟨e, he, hx⟩ := ptr_inv hx
    show (do loadVar t (← asAddr (a.tmps.getD c undef)) : Sem Value).run P w = _
    rw [hx] at h2 ⊢
    simpa [Instr.loadAt, Instr.sureAddr, asAddr] using h2
theorem results_mapM {f : AF} {s : HS} {a : Act} (T : TR E f a) (H : HR E s.at w) : ∀ (l : List ResultVar) (vs : List Value), l.mapM (resultA P f s) = some vs →
    ∃ vs', LR E vs vs' ∧ (l.mapM (resSem a)).run P w = .ok vs' w
  | [], vs, h => by simp at h; subst h; exact ⟨[], trivial, rfl⟩
  | r :: l, vs, h => by
    simp only [List.mapM_cons, Option.bind_eq_bind, Option.pure_def] at h
    cases h1 : resultA P f s r with
    | none => simp [h1] at h
    | some v =>
      cases h2 : l.mapM (resultA P f s) with
      | none => simp [h1, h2] at h
      | some vs0 =>
        simp [h1, h2] at h
        subst h
        obtain ⟨v', k1, k2⟩ := resultA_run T H h1
        obtain ⟨vs', k3, k4⟩ := results_mapM T H l vs0 h2
        refine ⟨v' :: vs', ⟨k1, k3⟩, ?_⟩
        rw [List.mapM_cons, Sem.run_bind, k2]
        simp only [Result.andThen_ok]
        rw [Sem.run_bind, k4]
        rfl
theorem results_run {a : Act} {fn : Func} {vs' : List Value} (k2 : (fn.results.toList.mapM (resSem a)).run P w = .ok vs' w) : (results fn a.tmps).run P w = .ok (if h : vs'.toArray.size = 1 then vs'.toArray[0] else .tuple vs'.toArray) w := by
  have := congrArg (fun r => Result.andThen r fun a w => Result.ok (List.toArray a) w) k2
  simp only [Result.andThen_ok] at this
  rw [← Sem.run_map, ← List.mapM_toArray] at this
  simp only [Array.toArray_toList] at this
  rw [results_eq, Sem.run_bind, this]
  rfl
theorem resultsA_run {f : AF} {s : HS} {a : Act} {fn : Func} {v : Value} (T : TR E f a) (H : HR E s.at w) (h : resultsA P f s fn.results.toList = some v) :
    ∃ v', VR E v v' ∧ (results fn a.tmps).run P w = .ok v' w := by
  unfold resultsA at h
  split at h
  · rename_i v0 hm
    cases h
    obtain ⟨vs', k1, k2⟩ := results_mapM T H _ _ hm
    obtain ⟨v', rfl, hv⟩ := one_of_lr k1
    exact ⟨v', hv, results_run k2⟩
  · rename_i vs hne hm
    cases h
    obtain ⟨vs', k1, k2⟩ := results_mapM T H _ _ hm
    refine ⟨.tuple vs'.toArray, VR.tuple' (by simpa using k1), ?_⟩
    have hl : ¬ vs'.toArray.size = 1 := by
      have := k1.length
      intro h1
      match vs, hne, this with
      | [], _, h => simp at h h1; omega
      | [x], hne, _ => exact hne x rfl
      | _ :: _ :: _, _, h => simp at h h1; omega
    rw [results_run k2, dif_neg hl]
  · cases h
end
end Go.Proofs.YtkekpiillbpciaaGreatDoor.Cx

/- A machine that runs a program's code on written inputs by computation alone, part 17: a run in a part of the kept heap is a run in the whole. No condition. -/
namespace Go.Proofs.YtkekpiillbpciaaGreatDoor.Cx
open Go

/-- a heap that a run in a part of it has changed at the names of N -/
def patch (N : List Nat) (h g : Hp) : Hp := fun b => if b ∈ N then h b else g b
theorem Tx.lift {E E' : Em} {h g h' : Hp} {w w' : World} {n n' : Nat} {l N : List Nat} (A : Tx E h w n E' h' w' n' l) (H : HR E g w) (sub : ∀ b o, h b = some o → g b = some o) (F : Fresh E n n')
    (hN : ∀ b, b ∈ N ↔ (n ≤ b ∧ b < n') ∨ b ∈ l) : Tx E g w n E' (patch N h' g) w' n' l := by
  have gfresh : ∀ b o, g b = some o → ¬ (n ≤ b ∧ b < n') := by
    intro b o hb hx
    obtain ⟨e, he, _⟩ := H.here b o hb
    rw [F b hx.1 hx.2] at he
    cases he
  have nomem : ∀ b, b ∉ N → (b < n ∨ n' ≤ b) ∧ b ∉ l := by
    intro b hb
    rw [hN] at hb
    simp only [not_or] at hb
    refine ⟨?_, hb.2⟩
    rcases Nat.lt_or_ge b n with h1 | h1
    · exact .inl h1
    · rcases Nat.lt_or_ge b n' with h2 | h2
      · exact absurd ⟨h1, h2⟩ hb.1
      · exact .inr h2
  -- an object of the changed heap is the run's, or an old one elsewhere
  have split : ∀ b o, patch N h' g b = some o → h' b = some o ∨ (h b = none ∧ g b = some o ∧ b ∉ N) := by
    intro b o hb
    unfold patch at hb
    split at hb
    · exact .inl hb
    · rename_i hbn
      cases hh : h b with
      | none => exact .inr ⟨rfl, hb, hbn⟩
      | some o' =>
        left
        obtain ⟨h1, h2⟩ := nomem b hbn
        rw [A.keep b h1 h2, hh]
        have := sub b o' hh
        rw [this] at hb
        exact hb
  have apart : ∀ b o e, h b = none → g b = some o → E b = some e → ∀ b' o' e', h b' = some o' → E b' = some e' → e'.blk ≠ e.blk := by
    intro b o e h1 h2 h3 b' o' e' h4 h5 hx
    have := H.inj b' b o' o e' e (sub _ _ h4) h2 h5 h3 hx
    subst this
    rw [h1] at h4
    cases h4
  have Eold : ∀ b o e, g b = some o → E' b = some e → E b = some e := by
    intro b o e h1 h2
    rcases A.dom b e h2 with h3 | h3
    · exact h3
    · exact absurd h3 (gfresh b o h1)
  have cross : ∀ b c o o' e e', h' b = some o → h c = none → g c = some o' → E' b = some e → E' c = some e' → e.blk = e'.blk → b = c := by
    intro b c o o' e e' hb hc1 hc2 he he' hx
    have hec := Eold c o' e' hc2 he'
    by_cases hnew : n ≤ b ∧ b < n'
    · rcases A.news b o e hnew.1 hnew.2 hb he with h1 | ⟨d, od, ed, h1, h2, h3⟩
      · have := H.lt hc2 hec
        omega
      · exact absurd (h3.trans hx) (apart c o' e' hc1 hc2 hec d od ed h1 h2)
    · rcases A.domle b o hb with ⟨o1, h1⟩ | h1
      · rcases A.dom b e he with h2 | h2
        · exact absurd hx (apart c o' e' hc1 hc2 hec b o1 e h1 h2)
        · exact absurd h2 hnew
      · exact absurd h1 hnew
  refine ⟨A.le, A.ext, A.dom, ⟨?_, ?_⟩, ?_, ?_, ?_, ?_, A.size, A.os, A.tape, A.output⟩
  · intro b o hb
    rcases split b o hb with h1 | ⟨h1, h2, h3⟩
    · exact A.hr.here b o h1
    · obtain ⟨e, he, ho⟩ := H.here b o h2
      refine ⟨e, A.ext _ _ he, ?_⟩
      rw [A.frame e.blk (H.lt h2 he) fun b' o' e' h4 h5 => apart b o e h1 h2 he b' o' e' h4 h5]
      exact ho.ext A.ext
  · intro b c o o' e e' hb hc he he' hx
    rcases split b o hb with h1 | ⟨h1, h2, h3⟩ <;> rcases split c o' hc with k1 | ⟨k1, k2, k3⟩
    · exact A.hr.inj b c o o' e e' h1 k1 he he' hx
    · exact cross b c o o' e e' h1 k1 k2 he he' hx
    · exact (cross c b o' o e' e k1 h1 h2 he' he hx.symm).symm
    · exact H.inj b c o o' e e' h2 k2 (Eold b o e h2 he) (Eold c o' e' k2 he') hx
  · intro b hb hl
    unfold patch
    rw [if_neg]
    rw [hN]
    simp only [not_or]
    exact ⟨by omega, hl⟩
  · intro b o hb
    rcases split b o hb with h1 | ⟨h1, h2, h3⟩
    · rcases A.domle b o h1 with ⟨o', h2⟩ | h2
      · exact .inl ⟨o', sub _ _ h2⟩
      · exact .inr h2
    · exact .inl ⟨o, h2⟩
  · intro b o e hb1 hb2 hb he
    rcases split b o hb with h1 | ⟨h1, h2, h3⟩
    · rcases A.news b o e hb1 hb2 h1 he with h2 | ⟨c, o', e', h2, h3, h4⟩
      · exact .inl h2
      · exact .inr ⟨c, o', e', sub _ _ h2, h3, h4⟩
    · exact absurd ⟨hb1, hb2⟩ (gfresh b o h2)
  · intro k hk hkk
    exact A.frame k hk fun b o e hb he => hkk b o e (sub _ _ hb) he

/-- a run within the names of another -/
theorem Tx.within {E E1 E2 : Em} {h h1 h2 : Hp} {w w1 w2 : World} {n n1 m m1 : Nat} {l l1 : List Nat}
    (A : Tx E h w n E1 h1 w1 n1 l) (B : Tx E1 h1 w1 m E2 h2 w2 m1 l1) (hm : n ≤ m) (hm1 : m1 ≤ n1) : Tx E h w n E2 h2 w2 n1 (l1 ++ l) := by
  refine ⟨A.le, A.ext.trans B.ext, ?_, B.hr, ?_, ?_, ?_, ?_, Nat.le_trans A.size B.size, B.os.trans A.os, B.tape.trans A.tape, B.output.trans A.output⟩
  · intro b e hb
    rcases B.dom b e hb with hb | hb
    · exact A.dom b e hb
    · exact .inr (by omega)
  · intro b hb hl
    simp only [List.mem_append, not_or] at hl
    rw [B.keep b (by omega) hl.1, A.keep b hb hl.2]
  · intro b o hb
    rcases B.domle b o hb with ⟨o', hb⟩ | hb
    · exact A.domle b o' hb
    · exact .inr (by omega)
  · intro b o e hb0 hb1 hb he
    have old : ∀ c o' e', h1 c = some o' → E1 c = some e' → w.heap.size ≤ e'.blk ∨ ∃ c o'' e'', h c = some o'' ∧ E c = some e'' ∧ e''.blk = e'.blk := by
      intro c o' e' hc hec
      by_cases hcn : n ≤ c ∧ c < n1
      · exact A.news c o' e' hcn.1 hcn.2 hc hec
      · rcases A.domle c o' hc with ⟨o'', hc'⟩ | hx
        · rcases A.dom c e' hec with hec' | hx
          · exact .inr ⟨c, o'', e', hc', hec', rfl⟩
          · exact absurd hx hcn
        · exact absurd hx hcn
    by_cases hnew : m ≤ b ∧ b < m1
    · rcases B.news b o e hnew.1 hnew.2 hb he with hx | ⟨c, o', e', hc, hec, hblk⟩
      · exact .inl (Nat.le_trans A.size hx)
      · rw [← hblk]
        exact old c o' e' hc hec
    · rcases B.domle b o hb with ⟨o', ho'⟩ | hx
      · rcases B.dom b e he with he1 | hx
        · exact old b o' e ho' he1
        · exact absurd hx hnew
      · exact absurd hx hnew
  · intro k hk hkk
    rw [B.frame k (Nat.lt_of_lt_of_le hk A.size) ?_, A.frame k hk hkk]
    intro b o e hb he hblk
    by_cases hbn : n ≤ b ∧ b < n1
    · rcases A.news b o e hbn.1 hbn.2 hb he with hx | ⟨c, o', e', h1', h2', h3'⟩
      · omega
      · exact hkk c o' e' h1' h2' (h3'.trans hblk)
    · rcases A.domle b o hb with ⟨o', hb'⟩ | hx
      · rcases A.dom b e he with he' | hx
        · exact hkk b o' e hb' he' hblk
        · exact hbn hx
      · exact hbn hx
theorem Tx.wide {E : Em} {h : Hp} {w : World} {n n' : Nat} (H : HR E h w) (hn : n ≤ n') : Tx E h w n E h w n' [] :=
  ⟨hn, .refl E, fun _ _ h => .inl h, H, fun _ _ _ => rfl, fun _ o h => .inl ⟨o, h⟩, fun b o e _ _ h1 h2 => .inr ⟨b, o, e, h1, h2, rfl⟩, fun _ _ _ => rfl, Nat.le_refl _, rfl, rfl, rfl⟩
end Go.Proofs.YtkekpiillbpciaaGreatDoor.Cx

/- A machine that runs a program's code on written inputs by computation alone, part 16: calls whose outcome is known. No condition. -/
namespace Go.Proofs.YtkekpiillbpciaaGreatDoor.Cx
open Go

theorem intEq_eq {i j : Int} (h : intEq i j = true) : i = j := by
  unfold intEq at h
  split at h
  · rw [beq_eq h]
  · rw [beq_eq h]
  · cases h
theorem addrEq_eq {a b : Option Addr} (h : addrEq a b = true) : a = b := by
  unfold addrEq at h
  split at h
  · rfl
  · rw [Bool.and_eq_true] at h
    rw [beq_eq h.1, beq_eq h.2]
  · cases h
theorem nameEq_eq {a b : Option Nat} (h : nameEq a b = true) : a = b := by
  unfold nameEq at h
  split at h
  · rfl
  · rw [beq_eq h]
  · cases h
theorem boolEq_eq {a b : Bool} (h : boolEq a b = true) : a = b := by
  unfold boolEq at h
  split at h <;> first | rfl | cases h
theorem bytes_eq {a b : ByteArray} (h : bytesBeq a.data.toList b.data.toList = true) : a = b := by
  rw [bytesBeq_eq] at h
  apply ByteArray.ext
  apply Array.toList_inj.1
  exact eq_of_beq h
theorem veq0_eq {x y : Value} (h : veq0 x y = true) : x = y := by
  unfold veq0 at h
  split at h
  · split at h
    · rw [Bool.and_eq_true] at h; rw [kind_eq h.1, intEq_eq h.2]
    · cases h
  · split at h
    · rw [boolEq_eq h]
    · cases h
  · split at h
    · rw [bytes_eq h]
    · cases h
  · split at h
    · rw [addrEq_eq h]
    · cases h
  · split at h
    · rw [Bool.and_eq_true, Bool.and_eq_true] at h; rw [addrEq_eq h.1, beq_eq h.2.1, beq_eq h.2.2]
    · cases h
  · split at h
    · rw [nameEq_eq h]
    · cases h
  · split at h
    · rfl
    · cases h
  · split at h
    · rfl
    · cases h
  · cases h
theorem all2_eq {α : Type} {p : α → α → Bool} (hp : ∀ x y, p x y = true → x = y) : ∀ (l m : List α), all2 p l m = true → l = m
  | [], [], _ => rfl
  | x :: r, y :: q, h => by
    simp only [all2, Bool.and_eq_true] at h
    rw [hp x y h.1, all2_eq hp r q h.2]
  | [], _ :: _, h => by cases h
  | _ :: _, [], h => by cases h
theorem nest_eq {p : Value → Value → Bool} (hp : ∀ x y, p x y = true → x = y) {x y : Value} (h : nest p x y = true) : x = y := by
  unfold nest at h
  split at h
  · split at h
    · rw [Array.toList_inj.1 (all2_eq hp _ _ h)]
    · cases h
  · split at h
    · rw [Array.toList_inj.1 (all2_eq hp _ _ h)]
    · cases h
  · split at h
    · rw [Bool.and_eq_true] at h; rw [beq_eq h.1, hp _ _ h.2]
    · cases h
  · exact veq0_eq h
theorem veq_eq {x y : Value} (h : veq x y = true) : x = y := nest_eq (fun _ _ h => nest_eq (fun _ _ h => veq0_eq h) h) h
theorem entEq_eq {x y : MapEntry} (h : entEq x y = true) : x = y := by
  obtain ⟨k, v, b⟩ := x
  obtain ⟨k', v', b'⟩ := y
  simp only [entEq, Bool.and_eq_true] at h
  rw [veq_eq h.1, veq_eq h.2.1, beq_eq h.2.2]
theorem oeq_eq {x y : AObj} (h : oeq x y = true) : x = y := by
  unfold oeq at h
  split at h
  · split at h
    · rw [Bool.and_eq_true, Bool.and_eq_true] at h
      rw [all2_eq (fun _ _ h => veq_eq h) _ _ h.1, beq_eq h.2.1, beq_eq h.2.2]
    · cases h
  · split at h
    · rw [Bool.and_eq_true] at h
      rw [all2_eq (fun _ _ h => entEq_eq h) _ _ h.1, beq_eq h.2]
    · cases h
/-- the object of a name in a list -/
def look : List (Nat × AObj) → Nat → Option AObj
  | [], _ => none
  | (c, o) :: r, b => if b = c then some o else look r b
theorem setAll_get : ∀ (l : List (Nat × AObj)) (t : Tr AObj) (b : Nat), (∀ p ∈ l, p.1 ≤ lim) → (setAll l t).get b = match look l b with | some o => some o | none => t.get b
  | [], t, b, _ => rfl
  | (c, o) :: r, t, b, h => by
    have hc : c ≤ lim := h (c, o) (by simp)
    simp only [setAll, setK_eq, look]
    by_cases hb : b = c
    · subst hb
      rw [if_pos rfl, Tr.get_set _ _ _ (by unfold deep; unfold lim at hc; omega)]
    · rw [if_neg hb, Tr.get_set_ne _ _ _ _ hb]
      exact setAll_get r t b fun p hp => h p (by simp [hp])
theorem look_mem : ∀ (l : List (Nat × AObj)) (b : Nat) (o : AObj), look l b = some o → (b, o) ∈ l
  | [], b, o, h => by cases h
  | (c, u) :: r, b, o, h => by
    unfold look at h
    split at h
    · rename_i hb
      cases h
      subst hb
      simp
    · exact List.mem_cons_of_mem _ (look_mem r b o h)
theorem allIn_spec {s : HS} : ∀ (l : List (Nat × AObj)), allIn s l = true → ∀ p ∈ l, s.at p.1 = some p.2
  | [], _, p, hp => by cases hp
  | (b, o) :: r, h, p, hp => by
    unfold allIn at h
    split at h
    · rename_i o' ho
      split at h
      · rename_i he
        rcases List.mem_cons.1 hp with rfl | hp
        · rw [ho, oeq_eq he]
        · exact allIn_spec r h p hp
      · cases h
    · cases h
/-- the heap that a known call leaves -/
def Known.out (x : Known) : Hp := fun b => match look x.outH b with
  | some o => some o
  | none => look x.inH b
/-- what a known call does -/
def KOk (P : Program) (V : List Nat) (x : Known) : Prop := ∀ (E : Em) (w : World) (args' : Array Value), HR E (look x.inH) w → LR E x.args args'.toList → GL E ⟨V, []⟩ → Fresh E x.n0 x.n1 →
  Calls P x.fn args' w fun e w' => ∃ v' E', e = .returned v' ∧ VR E' x.v v' ∧ Tx E (look x.inH) w x.n0 E' x.out w' x.n1 []
/-- what a call leaves behind -/
def Back (E : Em) (s : HS) (w : World) (v : Value) (s' : HS) (l : List Nat) : Ending → World → Prop :=
  fun e w' => ∃ v' E', e = .returned v' ∧ VR E' v v' ∧ Tx E s.at w s.next E' s'.at w' s'.next l
theorem applyK_spec : ∀ (K : List Known) (g : Nat) (args : List Value) (s : HS) (v : Value) (s' : HS), applyK K g args s = some (v, s') →
    ∃ x ∈ K, g = x.fn ∧ s.next ≤ x.n0 ∧ args = x.args ∧ allIn s x.inH = true ∧ x.n1 ≤ lim ∧ (∀ p ∈ x.outH, x.n0 ≤ p.1 ∧ p.1 < x.n1) ∧ v = x.v ∧ s' = ⟨setAll x.outH s.heap, x.n1, s.log⟩
  | [], g, args, s, v, s', h => by cases h
  | x :: r, g, args, s, v, s', h => by
    unfold applyK at h
    split at h
    · rename_i hc
      simp only [Bool.and_eq_true] at hc
      obtain ⟨h1, h2, h3, h4, h5, h6⟩ := hc
      cases h
      refine ⟨x, by simp, beq_eq h1, ble_le h2, all2_eq (fun _ _ h => veq_eq h) _ _ h3, h4, ble_le h5, fun p hp => ?_, rfl, rfl⟩
      have := List.all_eq_true.1 h6 p hp
      simp only [Bool.and_eq_true, Nat.blt_eq] at this
      exact ⟨ble_le this.1, this.2⟩
    · obtain ⟨y, hy, hrest⟩ := applyK_spec r g args s v s' h
      exact ⟨y, by simp [hy], hrest⟩
theorem applyK_keeps {K : List Known} {g : Nat} {args : List Value} {s s' : HS} {v : Value} (hn : ∀ x ∈ K, x.n0 ≤ x.n1) (h : applyK K g args s = some (v, s')) : Keeps s s' [] := by
  obtain ⟨x, hx, _, h2, _, _, h5, h6, _, rfl⟩ := applyK_spec K g args s v s' h
  have := hn x hx
  refine ⟨by show s.next ≤ x.n1; omega, rfl, fun b hb _ => ?_⟩
  have hb : b < s.next ∨ x.n1 ≤ b := hb
  unfold HS.at
  show (setAll x.outH s.heap).get b = s.heap.get b
  rw [setAll_get _ _ _ fun p hp => by have := h6 p hp; omega]
  cases hl : look x.outH b with
  | none => rfl
  | some o =>
    have := h6 _ (look_mem _ _ _ hl)
    simp only at this
    omega
theorem applyK_calls {P : Program} {G : Gl} (hK : ∀ x ∈ G.known, KOk P G.vars x) {g : Nat} {args : List Value} {s s' : HS} {v : Value} (h : applyK G.known g args s = some (v, s')) {l : List Nat} (hl : s'.log = l ++ s.log)
    {E : Em} {w : World} {args' : Array Value} (H : HR E s.at w) (ha : LR E args args'.toList) (L : GL E G) (F : Fresh E s.next s'.next) : Calls P g args' w (Back E s w v s' l) := by
  obtain ⟨x, hx, e1, h2, e2, h4, h5, h6, e3, e4⟩ := applyK_spec G.known g args s v s' h
  clear h
  subst e1 e2 e3 e4
  have hlog : l = [] := by
    have h0 : [] ++ s.log = l ++ s.log := hl
    exact (List.append_cancel_right h0).symm
  subst hlog
  have F : Fresh E s.next x.n1 := F
  have hin := allIn_spec _ h4
  have sub : ∀ b o, look x.inH b = some o → s.at b = some o := fun b o hb => hin (b, o) (look_mem x.inH b o hb)
  have F0 : Fresh E x.n0 x.n1 := fun b h1 h2 => F b (by omega) h2
  refine Calls.mono (hK x hx E w args' (H.sub sub) ha L F0) ?_
  rintro e w' ⟨v', E', rfl, hv, T⟩
  refine ⟨v', E', rfl, hv, ?_⟩
  have hle := T.le
  have T2 := T.lift H sub F0 (N := List.range' x.n0 (x.n1 - x.n0)) fun b => by
    rw [List.mem_range'_1]
    constructor
    · intro h; exact .inl (by omega)
    · rintro (h | h)
      · omega
      · cases h
  have hp : patch (List.range' x.n0 (x.n1 - x.n0)) x.out s.at = (⟨setAll x.outH s.heap, x.n1, s.log⟩ : HS).at := by
    funext b
    unfold HS.at
    show _ = (setAll x.outH s.heap).get b
    rw [setAll_get _ _ _ fun p hp => by have := h6 p hp; omega]
    unfold patch Known.out
    cases ho : look x.outH b with
    | some o =>
      have := h6 _ (look_mem _ _ _ ho)
      simp only at this
      rw [if_pos (by rw [List.mem_range'_1]; omega)]
    | none =>
      simp only
      by_cases hb : b ∈ List.range' x.n0 (x.n1 - x.n0)
      · rw [if_pos hb]
        rw [List.mem_range'_1] at hb
        have hE : E b = none := F b (by omega) (by omega)
        have hsb : s.heap.get b = none := by
          cases hs : s.heap.get b with
          | none => rfl
          | some o =>
            obtain ⟨e, he, _⟩ := H.here b o hs
            rw [hE] at he
            cases he
        rw [hsb]
        cases hi : look x.inH b with
        | none => rfl
        | some o =>
          have := sub b o hi
          unfold HS.at at this
          rw [hsb] at this
          cases this
      · rw [if_neg hb]
  rw [hp] at T2
  have T3 := (Tx.wide (n' := x.n1) H (by omega)).within T2 h2 (Nat.le_refl _)
  exact T3
end Go.Proofs.YtkekpiillbpciaaGreatDoor.Cx
