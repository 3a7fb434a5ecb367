/- A machine that runs a program's code on written inputs by computation alone, part 13: what an operation may change of the kept heap, and that it answers as the model's. No condition. -/
import Derived.Test.YtcnclcfglfgjlaaGreatDoorCxMem6
namespace Go.Proofs.YtcnclcfglfgjlaaGreatDoor.Cx
open Go

/-- how the kept heap moves -/
inductive Moves (s s' : HS) : Prop where
  | stay : s' = s → Moves s s'
  | new (o : AObj) : s.new o = some s' → Moves s s'
  | put (b : Nat) (o : AObj) : s.put b o = some s' → Moves s s'
  | take (b : Nat) (o : AObj) : s.take b o = some s' → Moves s s'
/-- names that are neither made nor touched keep their objects -/
structure Keeps (s s' : HS) (l : List Nat) : Prop where
  le : s.next ≤ s'.next
  log : s'.log = l ++ s.log
  keep : ∀ b, (b < s.next ∨ s'.next ≤ b) → b ∉ l → s'.at b = s.at b
theorem Keeps.refl (s : HS) : Keeps s s [] := ⟨Nat.le_refl _, rfl, fun _ _ _ => rfl⟩
theorem Keeps.trans {s t u : HS} {l m : List Nat} (A : Keeps s t l) (B : Keeps t u m) : Keeps s u (m ++ l) := by
  have a := A.le
  have b := B.le
  refine ⟨by omega, by rw [B.log, A.log, List.append_assoc], fun c hc hl => ?_⟩
  simp only [List.mem_append, not_or] at hl
  rw [B.keep c (by omega) hl.1, A.keep c (by omega) hl.2]
theorem Moves.keeps {s s' : HS} (h : Moves s s') : ∃ l, Keeps s s' l := by
  cases h with
  | stay h => subst h; exact ⟨[], Keeps.refl _⟩
  | new o h =>
    obtain ⟨h1, h2, h3⟩ := HS.new_spec h
    refine ⟨[], by omega, by simpa using h3, fun b hb _ => ?_⟩
    rw [h1]; unfold upd; rw [if_neg (by omega)]
  | put b o h =>
    obtain ⟨h1, h2, h3⟩ := HS.put_spec h
    refine ⟨[b], by omega, by simpa using h3, fun c _ hl => ?_⟩
    rw [h1]; unfold upd; rw [if_neg (by simpa using hl)]
  | take b o h =>
    obtain ⟨h1, h2, h3⟩ := HS.take_spec h
    refine ⟨[b], by omega, by simpa using h3, fun c hc hl => ?_⟩
    rw [h1]; unfold upd; rw [if_neg (by omega), if_neg (by simpa using hl)]
theorem storeRow_moves {s s' : HS} {b o : Nat} {vs : List Value} (h : storeRow s b o vs = some s') : Moves s s' := by
  unfold storeRow at h
  simp only [spliceK_eq] at h
  split at h <;> first | (cases h; done) | skip
  split at h <;> first | (cases h; done) | skip
  split at h <;> first | (cases h; done) | skip
  exact .put _ _ h
theorem newRowA_moves {s s' : HS} {e z len cap : Nat} {cs : List Value} {r : Value} (h : newRowA s e z cs len cap = some (r, s')) : Moves s s' := by
  unfold newRowA at h
  split at h <;> first | (cases h; done) | skip
  rename_i hn
  cases h
  exact .new _ hn
theorem newVarA_moves {s s' : HS} {t : Nat} {v r : Value} (h : newVarA s t v = some (r, s')) : Moves s s' := by
  unfold newVarA at h
  split at h <;> first | (cases h; done) | skip
  rename_i hn
  cases h
  exact .new _ hn
section
variable {P : Program}
theorem storeA_moves {s s' : HS} {t : Nat} {x v : Value} (h : storeA P s t x v = some s') : Moves s s' := by
  unfold storeA at h
  split at h <;> first | (cases h; done) | skip
  split at h <;> first | (cases h; done) | skip
  exact storeRow_moves h
theorem buildSliceA_moves {s s' : HS} {t len : Nat} {parts : Array (Nat × Value)} {r : Value} (h : buildSliceA P s t len parts = some (r, s')) : Moves s s' := by
  unfold buildSliceA at h
  repeat' (split at h <;> first | (cases h; done) | (exact newRowA_moves h) | skip)
theorem makeSliceA_moves {s s' : HS} {t : Nat} {l c : Value} {r : Value} (h : makeSliceA P s t l c = some (r, s')) : Moves s s' := by
  unfold makeSliceA at h
  repeat' (split at h <;> first | (cases h; done) | (exact newRowA_moves h) | skip)
theorem appendTo_moves {s s' : HS} {e z n : Nat} {new : List Value} {x r : Value} (h : appendTo s e z n new x = some (r, s')) : Moves s s' := by
  unfold appendTo at h
  simp only [apK_eq] at h
  repeat' (split at h <;> first | (cases h; done) | (exact newRowA_moves h) | skip)
  all_goals first | (cases h; exact .stay rfl) | skip
  all_goals first | (rename_i hs; cases h; exact .take _ _ hs) | (rename_i hs; cases h; exact storeRow_moves hs)
theorem appendA_moves {s s' : HS} {t u : Nat} {x y r : Value} (h : appendA P s t u x y = some (r, s')) : Moves s s' := by
  unfold appendA at h
  repeat' (split at h <;> first | (cases h; done) | (exact appendTo_moves h) | skip)
theorem copyA_moves {s s' : HS} {t : Nat} {x y r : Value} (h : copyA P s t x y = some (r, s')) : Moves s s' := by
  unfold copyA at h
  repeat' (split at h <;> first | (cases h; done) | skip)
  all_goals first | (rename_i hs; cases h; exact storeRow_moves hs) | (cases h; exact .stay rfl)
theorem convA_moves {s s' : HS} {src dst : Nat} {x r : Value} (h : convA P s src dst x = some (r, s')) : Moves s s' := by
  unfold convA at h
  repeat' (split at h <;> first | (cases h; done) | (exact newRowA_moves h) | skip)
  all_goals (cases h; exact .stay rfl)
theorem mapUpdateA_moves {s s' : HS} {t : Nat} {m k v : Value} (h : mapUpdateA P s t m k v = some s') : Moves s s' := by
  unfold mapUpdateA at h
  simp only [forceS_eq, forceN_eq] at h
  repeat' (split at h <;> first | (cases h; done) | (exact .put _ _ h) | skip)
theorem someV_val {s s' : HS} {x : Option Value} {v : Value} (h : someV s x = some (.val v s')) : x = some v ∧ s' = s := by
  unfold someV at h
  split at h <;> cases h
  exact ⟨rfl, rfl⟩
theorem pairV_val {s' : HS} {x : Option (Value × HS)} {v : Value} (h : pairV x = some (.val v s')) : x = some (v, s') := by
  unfold pairV at h
  split at h <;> cases h
  rfl
theorem unitV_val {s' : HS} {x : Option HS} {v : Value} (h : unitV x = some (.val v s')) : x = some s' ∧ v = undef := by
  unfold unitV at h
  split at h <;> cases h
  exact ⟨rfl, rfl⟩
theorem someV_enter {s : HS} {x : Option Value} {g : Nat} {args : List Value} (h : someV s x = some (.enter g args)) : False := by
  unfold someV at h
  split at h <;> cases h
theorem pairV_enter {x : Option (Value × HS)} {g : Nat} {args : List Value} (h : pairV x = some (.enter g args)) : False := by
  unfold pairV at h
  split at h <;> cases h
theorem unitV_enter {x : Option HS} {g : Nat} {args : List Value} (h : unitV x = some (.enter g args)) : False := by
  unfold unitV at h
  split at h <;> cases h
theorem callA_spec {g g' : Nat} {args args' : List Value} (h : callA P g args = some (.enter g' args')) : g' = g ∧ args' = args ∧ ∃ fn c, P.funcs[g]? = some fn ∧ fn.body = some c ∧ (fn.name == "runtime.NumGoroutine") = false := by
  unfold callA at h
  split at h
  · rename_i fn hf
    split at h
    · rename_i c hn hb
      cases h
      exact ⟨rfl, rfl, fn, c, hf, hb, hn⟩
    · cases h
  · cases h
theorem callA_val {g : Nat} {args : List Value} {v : Value} {s' : HS} (h : callA P g args = some (.val v s')) : False := by
  unfold callA at h
  split at h
  · split at h <;> cases h
  · cases h

theorem runOp_moves {G : Gl} {f : AF} {s s' : HS} {o : Oper} {v : Value} (h : runOp P G f s o = some (.val v s')) : Moves s s' := by
  unfold runOp at h
  split at h
  · cases h
  · split at h
    · cases h; exact .stay rfl
    · split at h
      · exact .stay (someV_val h).2
      · exact storeA_moves (unitV_val h).1
      · split at h
        · exact newVarA_moves (pairV_val h)
        · cases h
      · exact .stay (someV_val h).2
      · exact newVarA_moves (pairV_val h)
      · exact buildSliceA_moves (pairV_val h)
      · exact makeSliceA_moves (pairV_val h)
      · exact convA_moves (pairV_val h)
      · split at h
        · rename_i hn; cases h; exact .new _ hn
        · cases h
      · exact .stay (someV_val h).2
      · exact mapUpdateA_moves (unitV_val h).1
      · split at h
        · exact appendA_moves (pairV_val h)
        · exact copyA_moves (pairV_val h)
        · split at h
          · exact (callA_val h).elim
          · cases h
        · cases h
      · cases h

/-- what an operation that does not call yields -/
def Does (P : Program) (E : Em) (s s' : HS) (w : World) (v : Value) (x : Sem Next) : Prop :=
  ∃ l, s'.log = l ++ s.log ∧ ∃ E' v' w' nx, x.run P w = .ok nx w' ∧ (nx = .value v' ∨ (nx = .skip ∧ v' = undef)) ∧ VR E' v v' ∧ Tx E s.at w s.next E' s'.at w' s'.next l
section
variable {E : Em} {w : World} {s s' : HS}
theorem does_same {v v' : Value} {x : Sem Value} (H : HR E s.at w) (hv : VR E v v') (hr : x.run P w = .ok v' w) : Does P E s s w v (do pure (.value (← x))) :=
  ⟨[], rfl, E, v', w, .value v', by simp [hr], .inl rfl, hv, Tx.refl _ H⟩
theorem does_new {r : Value} {x : Sem Value} (h : s'.next = s.next + 1 ∧ s'.log = s.log ∧ ∃ E' r' w', x.run P w = .ok r' w' ∧ VR E' r r' ∧ Tx E s.at w s.next E' s'.at w' (s.next + 1) []) : Does P E s s' w r (do pure (.value (← x))) := by
  obtain ⟨h1, h2, E', r', w', h3, h4, h5⟩ := h
  exact ⟨[], by simpa using h2, E', r', w', .value r', by simp [h3], .inl rfl, h4, by rw [h1]; exact h5⟩
theorem does_unit {x : Sem Unit} (h : s'.next = s.next ∧ ∃ b, s'.log = b :: s.log ∧ ∃ w', x.run P w = .ok () w' ∧ Tx E s.at w s.next E s'.at w' s.next [b]) : Does P E s s' w undef (do x; pure .skip) := by
  obtain ⟨h1, b, h2, w', h3, h4⟩ := h
  exact ⟨[b], by simpa using h2, E, undef, w', .skip, by simp [h3], .inr ⟨rfl, rfl⟩, VR.undef, by rw [h1]; exact h4⟩
theorem does_makes {r : Value} {x : Sem Value} (h : Makes P E s s' w r x) : Does P E s s' w r (do pure (.value (← x))) := by
  obtain ⟨l, h1, _, E', r', w', h3, h4, h5⟩ := h
  exact ⟨l, h1, E', r', w', .value r', by simp [h3], .inl rfl, h4, h5⟩
theorem ov_map {x : Option Operand} {σ ρ : Operand → Value} (h : ∀ z, x = some z → VR E (σ z) (ρ z)) : OV E (x.map σ) (x.map ρ) := by
  cases x with
  | none => trivial
  | some z => exact h z rfl
end
end
end Go.Proofs.YtcnclcfglfgjlaaGreatDoor.Cx
