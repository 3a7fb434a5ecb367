/- A machine that runs a program's code on written inputs by computation alone, part 4: the operations that do not look at the heap. No condition. -/
import Derived.Test.YtcnclcfglfgjlaaGreatDoorCxEval
import Derived.WalkKit
namespace Go.Proofs.YtcnclcfglfgjlaaGreatDoor.Cx
open Go

theorem pureRun_run {P : Program} {α : Type} : ∀ (s : Sem α) (a : α), pureRun P s = some a → ∀ w, s.run P w = .ok a w := by
  intro s
  induction s with
  | pure b => intro a h w; simp only [pureRun, Option.some.injEq] at h; subst h; rfl
  | program k ih => intro a h w; simp only [pureRun] at h; simp only [Sem.run]; exact ih P a h w
  | _ => intro a h; simp [pureRun] at h

structure TR (E : Em) (f : AF) (a : Act) : Prop where
  size : a.tmps.size = f.size
  get : ∀ t, VR E (f.get t) (a.tmps.getD t undef)

def GL (E : Em) (G : Gl) : Prop := ∀ g ∈ G.vars, ∃ e, E g = some e ∧ e.blk = g

theorem ev_rel {E : Em} {G : Gl} {f : AF} {a : Act} (T : TR E f a) (L : GL E G) {x : Operand} (h : okOp G x = true) : VR E (ev f x) (a.eval x) := by
  cases x with
  | tmp t => exact T.get t
  | const v => exact bare_self v h
  | global g =>
    obtain ⟨e, he, hb⟩ := L g (by simpa [okOp] using h)
    have := VR.ptr g 0 e he
    rw [hb] at this
    exact this
  | func g => exact VR.func' trivial trivial

section
variable {P : Program} {E : Em}
theorem sizeT_run {t n : Nat} (h : sizeT P t = some n) (w : World) : (sizeOf t).run P w = .ok n w := by
  unfold sizeT at h
  split at h
  · rename_i i hi; cases h; simp [sizeOf, typeInfo, hi]
  · cases h
theorem under_run {t : Nat} {d : TypeDesc} (h : P.underlying t = some d) (w : World) : (underlying t).run P w = .ok d w := run_underlying h w
theorem aggT_run {t : Nat} {b : Bool} (h : aggT P t = some b) (w : World) : (isAgg t).run P w = .ok b w := by
  unfold aggT at h
  split at h <;> first | cases h | skip
  · rename_i hu; simp [isAgg, run_underlying hu]
  · rename_i hu; simp [isAgg, run_underlying hu]
  · rename_i d h1 h2 hu
    simp only [isAgg, Sem.run_bind, run_underlying hu, Result.andThen]
    cases d <;> first | rfl | exact absurd hu (h1 _) | exact absurd hu (h2 _ _)
theorem lr_extract {c c' : Array Value} (h : LR E c.toList c'.toList) (i j : Nat) : LR E (c.extract i j).toList (c'.extract i j).toList := by
  simp only [Array.toList_extract]
  exact (h.drop i).take _
theorem lr_get {c c' : Array Value} (h : LR E c.toList c'.toList) {i : Nat} {v : Value} (hv : c[i]? = some v) : ∃ v', c'[i]? = some v' ∧ VR E v v' := by
  have := h.at i v (by simpa using hv)
  simpa using this
theorem partA_run {t off : Nat} {cs cs' : Array Value} {v : Value} (h : partA P t cs off = some v) (hc : LR E cs.toList cs'.toList) :
    ∃ v', VR E v v' ∧ ∀ w, (part t cs' off).run P w = .ok v' w := by
  unfold partA at h
  split at h
  · rename_i ha
    split at h
    · rename_i n hn
      split at h
      · cases h
        exact ⟨_, VR.agg' (lr_extract hc _ _), fun w => by simp [part, aggT_run ha, sizeT_run hn]⟩
      · cases h
    · cases h
  · rename_i ha
    obtain ⟨v', hv', hr⟩ := lr_get hc h
    exact ⟨v', hr, fun w => by simp [part, aggT_run ha, hv']⟩
  · cases h
theorem inRange_spec {i : Int} {n j : Nat} (h : inRange i n = some j) : i = (j : Int) ∧ j < n := by
  unfold inRange at h
  split at h
  · rename_i m
    split at h
    · rename_i hb; cases h; exact ⟨rfl, by simpa [Nat.blt_eq] using hb⟩
    · cases h
  · cases h
theorem upTo_spec {i : Int} {n j : Nat} (h : upTo i n = some j) : i = (j : Int) ∧ j ≤ n := by
  unfold upTo at h
  split at h
  · rename_i m
    split at h
    · rename_i hb; cases h; exact ⟨rfl, by simpa using hb⟩
    · cases h
  · cases h
theorem add_eq (b o n : Nat) : (⟨b, o, none⟩ : Addr).add n = ⟨b, o + n, none⟩ := by
  unfold Addr.add
  split
  · rename_i h; subst h; rfl
  · rfl
theorem ptr_inv {b o : Nat} {v : Value} (h : VR E (.pointer (some ⟨b, o, none⟩)) v) : ∃ e, E b = some e ∧ v = .pointer (some ⟨e.blk, o, none⟩) := by
  cases h with
  | ptr b o e he => exact ⟨e, he, rfl⟩
theorem slice_inv {b o l c : Nat} {v : Value} (h : VR E (.slice (some ⟨b, o, none⟩) l c) v) : ∃ e c', E b = some e ∧ v = .slice (some ⟨e.blk, o, none⟩) l c' ∧ (c = c' ∨ c = unk) ∧ l ≤ c' ∧ (e.esz = 0 ∨ o + c' * e.esz ≤ e.rows) := by
  cases h with
  | slice b o l c c' e he h1 h2 h3 => exact ⟨e, c', he, rfl, h1, h2, h3⟩
theorem int_inv {k : IntKind} {n : Int} {v : Value} (h : VR E (.int k n) v) : v = .int k n := by cases h; rfl
theorem string_inv {s : ByteArray} {v : Value} (h : VR E (.string s) v) : v = .string s := by cases h; rfl
theorem bool_inv {b : Bool} {v : Value} (h : VR E (.bool b) v) : v = .bool b := by cases h; rfl
theorem slice0_inv {l c : Nat} {v : Value} (h : VR E (.slice none l c) v) : v = .slice none l c := by cases h; rfl

theorem fieldAddrA_run {t i : Nat} {x x' v : Value} (h : fieldAddrA P t x i = some v) (hx : VR E x x') :
    ∃ v', VR E v v' ∧ ∀ w, (Instr.fieldAt t x' i).run P w = .ok v' w := by
  unfold fieldAddrA at h
  split at h
  · rename_i fs b o hu
    split at h
    · rename_i fd hfd
      split at h
      · rename_i n hn
        cases h
        obtain ⟨e, he, rfl⟩ := ptr_inv hx
        refine ⟨_, VR.ptr b (o + fd.offset) e he, fun w => ?_⟩
        simp [Instr.fieldAt, run_underlying hu, hfd, Instr.sureAddr, fieldPlace, sizeT_run hn, add_eq]
      · cases h
    · cases h
  · cases h
theorem indexAddrA_run {t : Nat} {x x' ix ix' v : Value} (h : indexAddrA P t x ix = some v) (hx : VR E x x') (hi : VR E ix ix') :
    ∃ v', VR E v v' ∧ ∀ w, (Instr.indexAt t x' ix').run P w = .ok v' w := by
  unfold indexAddrA at h
  split at h
  · rename_i el b o n c k i hu
    split at h
    · rename_i j z hj hz
      cases h
      obtain ⟨e, c', he, rfl, _⟩ := slice_inv hx
      obtain rfl := int_inv hi
      obtain ⟨rfl, hlt⟩ := inRange_spec hj
      refine ⟨_, VR.ptr b (o + j * z) e he, fun w => ?_⟩
      simp [Instr.indexAt, asIntOf, run_underlying hu, hlt, sizeT_run hz, add_eq]
    · cases h
  · rename_i n el b o k i hu
    split at h
    · rename_i j z hj hz
      cases h
      obtain ⟨e, he, rfl⟩ := ptr_inv hx
      obtain rfl := int_inv hi
      obtain ⟨rfl, hlt⟩ := inRange_spec hj
      refine ⟨_, VR.ptr b (o + j * z) e he, fun w => ?_⟩
      simp [Instr.indexAt, Instr.sureAddr, asIntOf, run_underlying hu, hlt, sizeT_run hz, add_eq]
    · cases h
  · cases h
theorem fieldA_run {t i : Nat} {x x' v : Value} (h : fieldA P t x i = some v) (hx : VR E x x') :
    ∃ v', VR E v v' ∧ ∀ w, (Instr.field t x' i).run P w = .ok v' w := by
  unfold fieldA at h
  split at h
  · rename_i fs cs hu
    split at h
    · rename_i fd hfd
      obtain ⟨cs', rfl, hc⟩ := hx.agg_inv
      obtain ⟨v', hv, hr⟩ := partA_run h hc
      exact ⟨v', hv, fun w => by simp [Instr.field, run_underlying hu, hfd, asAgg, hr]⟩
    · cases h
  · cases h
theorem indexA_run {t : Nat} {x x' ix ix' v : Value} (h : indexA P t x ix = some v) (hx : VR E x x') (hi : VR E ix ix') :
    ∃ v', VR E v v' ∧ ∀ w, (Instr.index t x' ix').run P w = .ok v' w := by
  unfold indexA at h
  split at h
  · rename_i n el cs k i hu
    split at h
    · rename_i j z hj hz
      obtain ⟨cs', rfl, hc⟩ := hx.agg_inv
      obtain rfl := int_inv hi
      obtain ⟨rfl, hlt⟩ := inRange_spec hj
      obtain ⟨v', hv, hr⟩ := partA_run h hc
      exact ⟨v', hv, fun w => by simp [Instr.index, asIntOf, run_underlying hu, hlt, sizeT_run hz, hr]⟩
    · cases h
  · cases h
end
end Go.Proofs.YtcnclcfglfgjlaaGreatDoor.Cx
