/- A machine that runs a program's code on written inputs by computation alone, part 14: every operation answers as the model's. No condition. -/
import Derived.Test.YtcnclcfglfgjlaaGreatDoorCxOps
namespace Go.Proofs.YtcnclcfglfgjlaaGreatDoor.Cx
open Go

section
variable {P : Program} {E : Em} {w : World} {s s' : HS}
theorem one_of_lr {x : Value} {q : List Value} (h : LR E [x] q) : ∃ x', q = [x'] ∧ VR E x x' := by
  cases q with
  | nil => exact h.elim
  | cons a q => cases q with
    | nil => exact ⟨a, rfl, h.1⟩
    | cons b q => exact h.2.elim
theorem two_of_lr {x y : Value} {q : List Value} (h : LR E [x, y] q) : ∃ x' y', q = [x', y'] ∧ VR E x x' ∧ VR E y y' := by
  cases q with
  | nil => exact h.elim
  | cons a q =>
    obtain ⟨b, rfl, hb⟩ := one_of_lr h.2
    exact ⟨a, b, rfl, h.1, hb⟩
theorem runOp_does {G : Gl} {f : AF} {o : Oper} {v : Value} {ρ : Operand → Value} (h : runOp P G f s o = some (.val v s')) (H : HR E s.at w) (hr : ∀ z ∈ o.op.operands, VR E (ev f z) (ρ z))
    (hf : s.next < s'.next → E s.next = none) : Does P E s s' w v (execOp ρ o) := by
  unfold runOp at h
  split at h
  · cases h
  · rename_i hok
    clear hok
    split at h
    · rename_i v0 hv0
      cases h
      obtain ⟨v', h1, h2⟩ := heapless_run hv0 hr
      exact ⟨[], rfl, E, v', w, .value v', h2 w, .inl rfl, h1, Tx.refl _ H⟩
    · rename_i hnone
      clear hnone
      obtain ⟨dst, op, type, pos, after, guard⟩ := o
      simp only at h hr
      split at h
      · rename_i t x
        obtain ⟨h1, rfl⟩ := someV_val h
        obtain ⟨v', h2, h3⟩ := loadA_run (P := P) h1 H (hr x (by simp [Op.operands]))
        exact does_same H h2 h3
      · rename_i t x y
        obtain ⟨h1, rfl⟩ := unitV_val h
        exact does_unit (storeA_run (P := P) h1 H (hr x (by simp [Op.operands])) (hr y (by simp [Op.operands])))
      · rename_i t
        split at h
        · rename_i z hz
          have h1 := pairV_val h
          obtain ⟨hzr, hzb, _⟩ := zeroT_run hz
          have hn : s'.next = s.next + 1 := by
            unfold newVarA at h1
            split at h1
            · rename_i s2 hn2; cases h1; exact (HS.new_spec hn2).2.1
            · cases h1
          obtain ⟨k1, k2, E', r', w', k3, k4, k5⟩ := newVarA_run (P := P) h1 H (hf (by omega)) (bare_self z hzb)
          exact does_new ⟨k1, k2, E', .pointer (some r'), w', by simp [Instr.alloc, hzr, k3], k4, k5⟩
        · cases h
      · rename_i t x lo hi mx
        obtain ⟨h1, rfl⟩ := someV_val h
        obtain ⟨v', h2, h3⟩ := sliceA_run (P := P) h1 H (hr x (by simp [Op.operands])) (ov_map (ρ := ρ) fun z hz => hr z (by simp [Op.operands, hz])) (ov_map (ρ := ρ) fun z hz => hr z (by simp [Op.operands, hz]))
          (ov_map (ρ := ρ) fun z hz => hr z (by simp [Op.operands, hz]))
        exact does_same H h2 h3
      · rename_i t x
        have h1 := pairV_val h
        have hn : s'.next = s.next + 1 := by
          unfold newVarA at h1
          split at h1
          · rename_i s2 hn2; cases h1; exact (HS.new_spec hn2).2.1
          · cases h1
        obtain ⟨k1, k2, E', r', w', k3, k4, k5⟩ := newVarA_run (P := P) h1 H (hf (by omega)) (hr x (by simp [Op.operands]))
        exact does_new ⟨k1, k2, E', .pointer (some r'), w', by simp [Instr.box, k3], k4, k5⟩
      · rename_i t n parts
        have h1 := pairV_val h
        obtain ⟨l, hl⟩ := (buildSliceA_moves h1).keeps
        have hn : s'.next = s.next + 1 := by
          unfold buildSliceA newRowA at h1
          repeat' (split at h1 <;> first | (cases h1; done) | skip)
          all_goals (rename_i hs; first | (cases h1; exact (HS.new_spec hs).2.1) | skip)
          all_goals (split at hs <;> first | (cases hs; done) | skip)
        refine does_new (buildSliceA_run (P := P) h1 H (hf (by omega)) ?_)
        simp only [Array.toList_map]
        exact pl_map _ fun p hp => hr p.2 (by
          simp only [Op.operands, List.mem_toArray, List.mem_map]
          exact ⟨p, hp, rfl⟩)
      · rename_i t l c
        have h1 := pairV_val h
        have hn : s'.next = s.next + 1 := by
          unfold makeSliceA newRowA at h1
          repeat' (split at h1 <;> first | (cases h1; done) | skip)
          all_goals (rename_i hs; first | (cases h1; exact (HS.new_spec hs).2.1) | skip)
        exact does_new (makeSliceA_run (P := P) h1 H (hf (by omega)) (hr l (by simp [Op.operands])) (hr c (by simp [Op.operands])))
      · rename_i src dst x
        have h1 := pairV_val h
        exact does_makes (convA_run (P := P) h1 H hf (hr x (by simp [Op.operands])))
      · rename_i t
        split at h
        · rename_i s1 hn
          cases h
          exact does_new (makeMap_run (P := P) hn H (hf (by have := (HS.new_spec hn).2.1; omega)))
        · cases h
      · rename_i t m k ok
        obtain ⟨h1, rfl⟩ := someV_val h
        obtain ⟨v', h2, h3⟩ := lookupA_run (P := P) h1 H (hr m (by simp [Op.operands])) (hr k (by simp [Op.operands]))
        exact does_same H h2 h3
      · rename_i t m k v0
        obtain ⟨h1, rfl⟩ := unitV_val h
        exact does_unit (mapUpdateA_run (P := P) h1 H (hr m (by simp [Op.operands])) (hr k (by simp [Op.operands])) (hr v0 (by simp [Op.operands])))
      · rename_i c
        obtain ⟨callee, args, ts⟩ := c
        simp only at h
        have hargs : ∀ p ∈ args.toList, VR E (ev f p) (ρ p) := fun p hp => hr p (by cases callee <;> simp [Op.operands, Call.operands, Array.mem_toList_iff.1 hp])
        have hl := lr_map (E := E) args.toList hargs
        split at h
        · rename_i x y t u e1 e2
          have h1 := pairV_val h
          rw [e1] at hl
          obtain ⟨x', y', e3, hx, hy⟩ := two_of_lr hl
          have ha : args.map ρ = #[x', y'] := by apply Array.toList_inj.1; rw [Array.toList_map, e3]
          have ht : ts = #[t, u] := by apply Array.toList_inj.1; rw [e2]
          have := does_makes (appendA_run (P := P) (ty := type) h1 H hf hx hy)
          have he : execOp ρ ⟨dst, .call ⟨.builtin .append, args, ts⟩, type, pos, after, guard⟩ = (do pure (.value (← Builtin.append_ #[t, u] type #[x', y']))) := by
            simp [execOp, resolve, invoke, builtin, ha, ht]
          rw [he]
          exact this
        · rename_i x y t tr e1 e2
          have h1 := pairV_val h
          rw [e1] at hl
          obtain ⟨x', y', e3, hx, hy⟩ := two_of_lr hl
          have ha : args.map ρ = #[x', y'] := by apply Array.toList_inj.1; rw [Array.toList_map, e3]
          have := does_makes (copyA_run (P := P) (ty := type) h1 e2 H hx hy)
          have he : execOp ρ ⟨dst, .call ⟨.builtin .copy, args, ts⟩, type, pos, after, guard⟩ = (do pure (.value (← Builtin.copy_ ts type #[x', y']))) := by
            simp [execOp, resolve, invoke, builtin, ha]
          rw [he]
          exact this
        · split at h
          · exact (callA_val h).elim
          · cases h
        · cases h
      · cases h
/-- an operation that calls a function of the program -/
theorem runOp_enters {G : Gl} {f : AF} {o : Oper} {g : Nat} {args : List Value} {ρ : Operand → Value} (h : runOp P G f s o = some (.enter g args)) (hr : ∀ z ∈ o.op.operands, VR E (ev f z) (ρ z)) :
    ∃ args' : Array Value, LR E args args'.toList ∧ ∀ w, (execOp ρ o).run P w = .ok (.enter g args') w := by
  unfold runOp at h
  split at h
  · cases h
  · rename_i hok
    clear hok
    split at h
    · cases h
    · rename_i hnone
      clear hnone
      obtain ⟨dst, op, type, pos, after, guard⟩ := o
      simp only at h hr
      split at h
      · exact (someV_enter h).elim
      · exact (unitV_enter h).elim
      · split at h
        · exact (pairV_enter h).elim
        · cases h
      · exact (someV_enter h).elim
      · exact (pairV_enter h).elim
      · exact (pairV_enter h).elim
      · exact (pairV_enter h).elim
      · exact (pairV_enter h).elim
      · split at h <;> cases h
      · exact (someV_enter h).elim
      · exact (unitV_enter h).elim
      · rename_i c
        obtain ⟨callee, cargs, ts⟩ := c
        simp only at h
        have hargs : ∀ p ∈ cargs.toList, VR E (ev f p) (ρ p) := fun p hp => hr p (by cases callee <;> simp [Op.operands, Call.operands, Array.mem_toList_iff.1 hp])
        have hl := lr_map (E := E) cargs.toList hargs
        split at h
        · exact (pairV_enter h).elim
        · exact (pairV_enter h).elim
        · rename_i x
          have hx := hr x (by simp [Op.operands, Call.operands])
          split at h
          · rename_i g1 first captured e1
            obtain ⟨rfl, rfl, fn, c, hf, hb, hn⟩ := callA_spec h
            rw [e1] at hx
            obtain ⟨first', captured', e2, l1, l2⟩ := hx.func_inv
            refine ⟨first' ++ cargs.map ρ ++ captured', ?_, fun w => ?_⟩
            · simp only [Array.toList_append, Array.toList_map]
              exact (l1.append hl).append l2
            · have hn' : fn.name ≠ "runtime.NumGoroutine" := by simpa using hn
              simp [execOp, resolve, e2, Deferred.ofValue, invoke, callFunc, hf, hb, hn']
          · cases h
        · cases h
      · cases h
end
end Go.Proofs.YtcnclcfglfgjlaaGreatDoor.Cx
