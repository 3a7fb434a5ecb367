/- The reference's Default returns the default locale: the machine of CxEval computes it. -/
import Derived.Test.YtkekpiillbpciaaGreatDoorC7
import Derived.Test.YtkekpiillbpciaaGreatDoorM6
namespace Go.Proofs.YtkekpiillbpciaaGreatDoor.KLoc
open Go Go.RowKit KeyMath Strs
set_option maxRecDepth 100000
/-- does the machine compute the default locale? -/
def dfltB (P : Program) (n g : Nat) : Bool := match Cx.callF P ⟨[], []⟩ (Cx.run P ⟨[], []⟩ n) g [] ⟨.leaf, 0, []⟩ with
  | some (.agg cs, s) => match cs.toList with
    | [a, .slice (some ⟨k, 0, none⟩) 256 u, b, c, d, e] => Nat.beq u Cx.unk && (Cx.veq a posix && (Cx.veq b (.string ⟨lowT.toArray⟩) && (Cx.veq c (.string ⟨upT.toArray⟩) && (Cx.veq d (.slice none 0 0) && (Cx.veq e (.slice none 0 0) && (match s.at k with
      | some o => Cx.oeq o (.row wcells 3 1)
      | none => false))))))
    | _ => false
  | _ => false
theorem default_computed : dfltB Tryz.prog 100000 8 = true := by decide +kernel
theorem icells_self {E : Cx.Em} : ∀ {xs ys : List Value}, (∀ x ∈ xs, Cx.bare0 x = true) → Cx.LR E xs ys → ys = xs := fun {xs ys} h k => Cx.arr_eq_of_lr k fun x hx y hy => Cx.bare0_eq (h x hx) hy
theorem wcells_bare : ∀ x ∈ wcells, Cx.bare0 x = true := by
  intro x hx
  obtain ⟨i, _, rfl⟩ := List.mem_map.1 hx
  rfl
theorem default_any (w : World) : Calls Tryz.prog 8 #[] w fun e w' => ∃ v, e = .returned (locVal v) ∧ Wts w' v ∧ Below w.heap.size w w' := by
  have h := default_computed
  unfold dfltB at h
  split at h
  · rename_i cs s hc
    split at h
    · rename_i a k u b c d e hcs
      simp only [Bool.and_eq_true] at h
      obtain ⟨h0, h1, h2, h3, h4, h5, h6⟩ := h
      split at h6
      · rename_i o ho
        have e1 := Cx.veq_eq h1
        have e2 := Cx.veq_eq h2
        have e3 := Cx.veq_eq h3
        have e4 := Cx.veq_eq h4
        have e5 := Cx.veq_eq h5
        have e6 := Cx.oeq_eq h6
        subst e1 e2 e3 e4 e5 e6
        refine Calls.mono (Cx.open_calls (K := []) (args := []) (args' := #[]) rfl (fun x hx => by cases hx) hc rfl (fun x hx => by cases hx) w) ?_
        rintro en w' ⟨v', E', rfl, hv, HR, hnew, hb⟩
        obtain ⟨c', rfl, hl⟩ := hv.agg_inv
        rw [hcs] at hl
        obtain ⟨l'⟩ := c'
        match l', hl with
        | [a', x', b', c', d', e'], ⟨r1, r2, r3, r4, r5, r6, _⟩ =>
          obtain ⟨em, cap, hem, rfl, hcc, hle, hfit, hsm⟩ := Cx.slice_inv r2
          have q1 := Cx.bare_eq rfl r1
          have q3 := Cx.bare_eq rfl r3
          have q4 := Cx.bare_eq rfl r4
          have q5 := Cx.bare_eq rfl r5
          have q6 := Cx.bare_eq rfl r6
          subst q1 q3 q4 q5 q6
          obtain ⟨em2, hem2, hz, cur, fz, hcur, hsz, hfz, hln, hlr⟩ := HR.here k _ ho
          rw [hem] at hem2
          cases hem2
          refine ⟨_, rfl, ⟨em.blk, cap, rfl, hle, fun i hi => ?_⟩, hb⟩
          have he := icells_self wcells_bare hlr
          have hw : wcells[i]? = some (.int .i64 (i : Int)) := by simp [wcells, hi]
          rw [cell_of_row w' em.blk i cur _ fz hcur]
          rw [← he, List.getElem?_take] at hw
          split at hw
          · simpa using hw
          · cases hw
      · cases h6
    · cases h
  · cases h
end Go.Proofs.YtkekpiillbpciaaGreatDoor.KLoc
