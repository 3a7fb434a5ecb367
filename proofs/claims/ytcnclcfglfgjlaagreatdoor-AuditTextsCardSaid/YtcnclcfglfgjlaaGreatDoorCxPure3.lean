/- A machine that runs a program's code on written inputs by computation alone, part 6: every operation that does not look at the heap answers as the model's. No condition. -/
import Derived.Test.YtcnclcfglfgjlaaGreatDoorCxPure2
namespace Go.Proofs.YtcnclcfglfgjlaaGreatDoor.Cx
open Go

section
variable {P : Program} {E : Em}
theorem bytesBeq_eq : ∀ (x y : List UInt8), bytesBeq x y = (x == y)
  | [], [] => rfl
  | [], _ :: _ => rfl
  | _ :: _, [] => rfl
  | a :: x, b :: y => by
    unfold bytesBeq
    by_cases h : a.toNat = b.toNat
    · have hab : a = b := UInt8.toNat_inj.1 h
      subst hab
      simp [bytesBeq_eq x y]
    · rw [nbeq_f h]
      have hab : a ≠ b := fun e => h (by rw [e])
      simp [hab]
theorem bytesLess_eq : ∀ (x y : List UInt8), bytesLess x y = Op.bytesLess x y
  | [], [] => rfl
  | [], _ :: _ => rfl
  | _ :: _, [] => rfl
  | a :: x, b :: y => by
    unfold bytesLess Op.bytesLess
    by_cases hlt : a.toNat < b.toNat
    · have h1 : Nat.blt a.toNat b.toNat = true := by simpa [Nat.blt_eq] using hlt
      have h2 : a < b := UInt8.lt_iff_toNat_lt.2 hlt
      simp [h1, h2]
    · have h1 : Nat.blt a.toNat b.toNat = false := by
        cases hb : Nat.blt a.toNat b.toNat
        · rfl
        · exact absurd (by simpa [Nat.blt_eq] using hb) hlt
      have h2 : ¬ a < b := fun h => hlt (UInt8.lt_iff_toNat_lt.1 h)
      by_cases h : a.toNat = b.toNat
      · have hab : a = b := UInt8.toNat_inj.1 h
        subst hab
        simp [h1, bytesLess_eq x y]
      · have hab : a ≠ b := fun e => h (by rw [e])
        have h3 : Nat.beq a.toNat b.toNat = false := nbeq_f h
        simp [h1, h2, hab, h3]
theorem string_append (x y : ByteArray) : (⟨(x.data.toList ++ y.data.toList).toArray⟩ : ByteArray) = x ++ y := by
  apply ByteArray.ext
  rw [ByteArray.data_append]
  apply Array.toList_inj.1
  simp
theorem stringA_run {op : BinOp} {x y : ByteArray} {v : Value} (h : stringA op x y = some v) (w : World) : (Op.stringOp op x y).run P w = .ok v w := by
  unfold Op.stringOp
  simp only [ByteArray.toList_eq]
  cases op <;> simp only [stringA, byteList, bytesBeq_eq, bytesLess_eq, Option.some.injEq, reduceCtorEq] at h
  case add =>
    split at h
    · rename_i hb
      cases h
      have hs : x.size + y.size ≤ lim := by simpa using hb
      have : ¬ (((x.size + y.size : Nat) : Int) > IntKind.i64.max) := by
        have e : IntKind.i64.max = 9223372036854775807 := by decide
        rw [e]
        unfold lim at hs
        omega
      simp only [this, if_false, string_append]
      rfl
    · cases h
  all_goals (subst h; rfl)
theorem eqGuard_run {op : BinOp} {t : Nat} {x y : Operand} {a b : Value} (h1 : ∀ c d, a = .agg c → b = .agg d → False) (h2 : a = .nilIface → b = .nilIface → False) (w : World) :
    (eqGuard op t x y a b).run P w = .ok () w := by
  unfold eqGuard
  cases op <;> simp only [Bool.not_true, Bool.not_false, Bool.false_eq_true, if_false, if_true] <;> first
    | rfl
    | (split
       · exact (h2 rfl rfl).elim
       · exact (h1 _ _ rfl rfl).elim
       · rfl)
theorem eqNil_run {t : Nat} {d : TypeDesc} {x y x' y' : Value} {b : Bool} (hu : P.underlying t = some d) (h : eqNil d x y = some b) (hx : VR E x x') (hy : VR E y y') (n : Nat) (w : World) :
    (Op.equalIn (n + 1) t x' y').run P w = .ok b w := by
  unfold eqNil at h
  split at h <;> cases h <;> cases hx <;> cases hy <;> simp [Op.equalIn, run_underlying hu]
theorem equal_eq (t : Nat) (x y : Value) : Op.equal t x y = Op.equalIn (9999 + 1) t x y := rfl
/-- the kinds of the two values that are compared -/
theorem eqNil_kinds {d : TypeDesc} {x y : Value} {b : Bool} (h : eqNil d x y = some b) :
    (∀ c c', x = .agg c → y = .agg c' → False) ∧ (x = .nilIface → y = .nilIface → False) := by
  unfold eqNil at h
  split at h <;> cases h <;> refine ⟨fun _ _ h1 h2 => ?_, fun h1 h2 => ?_⟩ <;> first | (cases h1; done) | (cases h2; done)
theorem binOp_eql {t : Nat} {d : TypeDesc} {x y x' y' : Value} {b : Bool} (h : eqNil d x y = some b) (hx : VR E x x') (hy : VR E y y') :
    binOp .eql t x' y' = (do pure (.bool (← Op.equal t x' y'))) ∧ binOp .neq t x' y' = (do pure (.bool (!(← Op.equal t x' y')))) := by
  unfold eqNil at h
  split at h <;> cases h <;> cases hx <;> cases hy <;> exact ⟨rfl, rfl⟩
theorem execOp_bare {o : Oper} {σ ρ : Operand → Value} (hs : ∀ cs b, o.op ≠ .select cs b) (h : ∀ x ∈ o.op.operands, VR E (σ x) (ρ x)) (hb : ∀ x ∈ o.op.operands, bare (σ x) = true) :
    execOp ρ o = execOp σ o := execOp_congr o hs fun x hx => bare_eq (hb x hx) (h x hx)

theorem wrapK {k : IntKind} {n : Nat} (h : n ≤ topK k) : k.wrap (n : Int) = (n : Int) := by
  cases k <;> simp only [topK] at h <;> simp [IntKind.wrap, IntKind.bits, IntKind.signed] <;> omega
theorem intK_spec {k : IntKind} {n : Nat} {v : Value} (h : intK k n = some v) : v = .int k (n : Int) ∧ k.wrap (n : Int) = (n : Int) := by
  unfold intK at h
  split at h
  · rename_i hb
    cases h
    exact ⟨rfl, wrapK (Nat.le_of_ble_eq_true hb)⟩
  · cases h
theorem kind_eq {j k : IntKind} (h : Nat.beq j.ctorIdx k.ctorIdx = true) : j = k := by
  cases j <;> cases k <;> first | rfl | (cases h)
theorem natPair_spec {x y : Value} {k : IntKind} {a b : Nat} (h : natPair x y = some (k, a, b)) : x = .int k (a : Int) ∧ y = .int k (b : Int) := by
  unfold natPair at h
  split at h <;> first | (cases h; done) | skip
  split at h <;> first | (cases h; done) | skip
  split at h <;> first | (cases h; done) | skip
  split at h <;> first | (cases h; done) | skip
  split at h <;> first | (cases h; done) | skip
  rename_i hk
  cases h
  have hk := kind_eq hk
  subst hk
  exact ⟨rfl, rfl⟩
theorem strPair_spec {x y : Value} {a b : ByteArray} (h : strPair x y = some (a, b)) : x = .string a ∧ y = .string b := by
  unfold strPair at h
  split at h <;> first | (cases h; done) | skip
  split at h <;> first | (cases h; done) | skip
  cases h
  exact ⟨rfl, rfl⟩
theorem natBin_run {op : BinOp} {k : IntKind} {a b t : Nat} {v : Value} (h : natBin op k a b = some v) : bare v = true ∧ ∀ w, (binOp op t (.int k (a : Int)) (.int k (b : Int))).run P w = .ok v w := by
  have hb : ∀ {x y : Nat}, Nat.blt x y = decide ((x : Int) < (y : Int)) := by
    intro x y
    cases hx : Nat.blt x y
    · symm
      rw [decide_eq_false_iff_not]
      intro h
      have : Nat.blt x y = true := by rw [Nat.blt_eq]; omega
      rw [hx] at this; cases this
    · symm
      rw [decide_eq_true_eq]
      rw [Nat.blt_eq] at hx
      omega
  have hl : ∀ {x y : Nat}, Nat.ble x y = decide ((x : Int) ≤ (y : Int)) := by
    intro x y
    cases hx : Nat.ble x y
    · symm
      rw [decide_eq_false_iff_not]
      intro h
      have : Nat.ble x y = true := Nat.ble_eq_true_of_le (by omega)
      rw [hx] at this; cases this
    · symm
      rw [decide_eq_true_eq]
      have := Nat.le_of_ble_eq_true hx
      omega
  have he : ∀ {x y : Nat}, Nat.beq x y = ((x : Int) == (y : Int)) := by
    intro x y
    by_cases hx : x = y
    · subst hx; rw [nbeq_t rfl]; simp
    · rw [nbeq_f hx]
      symm
      rw [beq_eq_false_iff_ne]
      omega
  unfold natBin at h
  split at h
  · obtain ⟨rfl, hw⟩ := intK_spec h
    refine ⟨rfl, fun w => ?_⟩
    have : (a : Int) + (b : Int) = ((a + b : Nat) : Int) := by omega
    simp only [binOp, Op.intArith, this, hw, ne_eq, not_true_eq_false, if_false]
    rfl
  · split at h
    · rename_i hle
      have hle := Nat.le_of_ble_eq_true hle
      obtain ⟨rfl, hw⟩ := intK_spec h
      refine ⟨rfl, fun w => ?_⟩
      have : (a : Int) - (b : Int) = ((a - b : Nat) : Int) := by omega
      simp only [binOp, Op.intArith, this, hw, ne_eq, not_true_eq_false, if_false]
      rfl
    · cases h
  · obtain ⟨rfl, hw⟩ := intK_spec h
    refine ⟨rfl, fun w => ?_⟩
    have : (a : Int) * (b : Int) = ((a * b : Nat) : Int) := by rw [Int.natCast_mul]
    simp only [binOp, Op.intArith, this, hw, ne_eq, not_true_eq_false, if_false]
    rfl
  · cases h; refine ⟨rfl, fun w => ?_⟩; simp only [binOp, Op.intCmp, ne_eq, not_true_eq_false, if_false, hb]; rfl
  · cases h; refine ⟨rfl, fun w => ?_⟩; simp only [binOp, Op.intCmp, ne_eq, not_true_eq_false, if_false, hl]; rfl
  · cases h; refine ⟨rfl, fun w => ?_⟩; simp only [binOp, Op.intCmp, ne_eq, not_true_eq_false, if_false, hb]; rfl
  · cases h; refine ⟨rfl, fun w => ?_⟩; simp only [binOp, Op.intCmp, ne_eq, not_true_eq_false, if_false, hl]; rfl
  · cases h; refine ⟨rfl, fun w => ?_⟩; simp only [binOp, Op.intCmp, ne_eq, not_true_eq_false, if_false, he]; rfl
  · cases h; refine ⟨rfl, fun w => ?_⟩; simp only [binOp, Op.intCmp, ne_eq, not_true_eq_false, if_false, he, bne]; rfl
  · cases h
theorem slow_run {o : Oper} {f : AF} {ρ : Operand → Value} {v : Value} (hs : ∀ cs b, o.op ≠ .select cs b) (hr : ∀ z ∈ o.op.operands, VR E (ev f z) (ρ z)) (hb : ∀ z ∈ o.op.operands, bare (ev f z) = true)
    (h : (match pureRun P (execOp (ev f) o) with
      | some (.value r) => match bare r with
        | true => some r
        | false => none
      | _ => none) = some v) : ∃ v', VR E v v' ∧ ∀ w, (execOp ρ o).run P w = .ok (.value v') w := by
  split at h
  · rename_i r hp
    split at h
    · rename_i hrb
      cases h
      exact ⟨v, bare_self v hrb, fun w => by rw [execOp_bare hs hr hb]; exact pureRun_run _ _ hp w⟩
    · cases h
  · cases h
theorem slowOp_run {o : Oper} {f : AF} {ρ : Operand → Value} {v : Value} (hs : ∀ cs b, o.op ≠ .select cs b) (hr : ∀ z ∈ o.op.operands, VR E (ev f z) (ρ z)) (h : slowOp P f o = some v) :
    ∃ v', VR E v v' ∧ ∀ w, (execOp ρ o).run P w = .ok (.value v') w := by
  unfold slowOp at h
  split at h
  · rename_i hb
    exact slow_run hs hr (fun x hx => Array.all_eq_true_iff_forall_mem.1 hb x hx) h
  · cases h
theorem convNat_run {src dst : Nat} {x x' v : Value} (h : convNat P src dst x = some v) (hx : VR E x x') : bare v = true ∧ ∀ w, (convert src dst x').run P w = .ok v w := by
  unfold convNat at h
  split at h <;> first | (cases h; done) | skip
  split at h <;> first | (cases h; done) | skip
  split at h <;> first | (cases h; done) | skip
  rename_i k0 _ a _ _ d k hs hd
  obtain ⟨rfl, hw⟩ := intK_spec h
  obtain rfl := int_inv hx
  refine ⟨rfl, fun w => ?_⟩
  simp only [convert, Sem.run_bind, run_underlying hs, run_underlying hd, Result.andThen_ok]
  show (Conv.intToInt k (Int.ofNat a)).run P w = _
  simp only [Conv.intToInt]
  rw [show (Int.ofNat a) = (a : Int) from rfl, hw]
  rfl
theorem binSlow_run {o : Oper} {op : BinOp} {t yt : Nat} {f : AF} {x y : Operand} {ρ : Operand → Value} {v : Value} (ho : o.op = .binOp op t x y yt) (h : binSlow P o op t f (ev f x) (ev f y) = some v)
    (hr : ∀ z ∈ o.op.operands, VR E (ev f z) (ρ z)) : ∃ v', VR E v v' ∧ ∀ w, (execOp ρ o).run P w = .ok (.value v') w := by
  have hx : VR E (ev f x) (ρ x) := hr x (by simp [ho, Op.operands])
  have hy : VR E (ev f y) (ρ y) := hr y (by simp [ho, Op.operands])
  unfold binSlow at h
  split at h
  · rename_i hb
    simp only [Bool.and_eq_true] at hb
    refine slow_run (by simp [ho]) hr ?_ h
    intro z hz
    simp only [ho, Op.operands, List.mem_toArray, List.mem_cons, List.not_mem_nil, or_false] at hz
    rcases hz with rfl | rfl
    · exact hb.1
    · exact hb.2
  · split at h
    · rename_i d hu
      have run : ∀ b, eqNil d (ev f x) (ev f y) = some b → (∀ w, (Op.equal t (ρ x) (ρ y)).run P w = .ok b w) ∧ ∀ op w, (eqGuard op t x y (ρ x) (ρ y)).run P w = .ok () w := by
        intro b hb
        refine ⟨fun w => by rw [equal_eq]; exact eqNil_run hu hb hx hy 9999 w, fun op w => ?_⟩
        obtain ⟨k1, k2⟩ := eqNil_kinds hb
        refine eqGuard_run (fun c c' h1 h2 => ?_) (fun h1 h2 => ?_) w
        · rw [h1] at hx; rw [h2] at hy
          generalize ev f x = u at hx k1
          generalize ev f y = u' at hy k1
          cases hx; cases hy
          exact k1 _ _ rfl rfl
        · rw [h1] at hx; rw [h2] at hy
          generalize ev f x = u at hx k2
          generalize ev f y = u' at hy k2
          cases hx; cases hy
          exact k2 rfl rfl
      split at h
      · rename_i b hb
        cases h
        obtain ⟨r1, r2⟩ := run b hb
        refine ⟨_, .bool b, fun w => ?_⟩
        simp [execOp, ho, r2, (binOp_eql hb hx hy).1, r1]
      · rename_i b hb
        cases h
        obtain ⟨r1, r2⟩ := run b hb
        refine ⟨_, .bool (!b), fun w => ?_⟩
        simp [execOp, ho, r2, (binOp_eql hb hx hy).2, r1]
      · cases h
    · cases h
theorem binA_run {o : Oper} {op : BinOp} {t yt : Nat} {f : AF} {x y : Operand} {ρ : Operand → Value} {v : Value} (ho : o.op = .binOp op t x y yt) (h : binA P o op t f x y = some v)
    (hr : ∀ z ∈ o.op.operands, VR E (ev f z) (ρ z)) : ∃ v', VR E v v' ∧ ∀ w, (execOp ρ o).run P w = .ok (.value v') w := by
  have hx : VR E (ev f x) (ρ x) := hr x (by simp [ho, Op.operands])
  have hy : VR E (ev f y) (ρ y) := hr y (by simp [ho, Op.operands])
  unfold binA at h
  split at h
  · rename_i k a b hp
    split at h
    · rename_i v1 hv
      cases h
      obtain ⟨e1, e2⟩ := natPair_spec hp
      rw [e1] at hx
      rw [e2] at hy
      have e1 := int_inv hx
      have e2 := int_inv hy
      obtain ⟨hb, hrun⟩ := natBin_run (P := P) (t := t) hv
      refine ⟨v, bare_self v hb, fun w => ?_⟩
      simp only [execOp, ho, e1, e2, Sem.run_bind, eqGuard_run (P := P) (op := op) (t := t) (x := x) (y := y) (a := .int k (a : Int)) (b := .int k (b : Int)) (by simp) (by simp) w, Result.andThen_ok, hrun, Sem.run_pure]
    · exact binSlow_run ho h hr
  · split at h
    · rename_i a b hp
      obtain ⟨hu, hv⟩ := strPair_spec hp
      rw [hu] at hx
      rw [hv] at hy
      have e1 := string_inv hx
      have e2 := string_inv hy
      have hst := fun w => stringA_run (P := P) h w
      have hv : VR E v v := by
        unfold stringA at h
        split at h
        · split at h
          · cases h; exact .string _
          · cases h
        all_goals first | (cases h; exact .bool _) | cases h
      refine ⟨v, hv, fun w => ?_⟩
      have hb : ∀ op, binOp op t (.string a) (.string b) = Op.stringOp op a b := fun op => by cases op <;> rfl
      simp only [execOp, ho, e1, e2, Sem.run_bind, eqGuard_run (P := P) (op := op) (t := t) (x := x) (y := y) (a := .string a) (b := .string b) (by simp) (by simp) w, Result.andThen_ok, hb, hst, Sem.run_pure]
    · exact binSlow_run ho h hr

theorem string_inv' {s : ByteArray} {v : Value} (h : VR E (.string s) v) : v = .string s := by cases h; rfl
/-- an operation that does not look at the heap yields, in every world, a value for which the machine's stands -/
theorem heapless_run {o : Oper} {f : AF} {ρ : Operand → Value} {v : Value} (h : heapless P f o = some v) (hr : ∀ z ∈ o.op.operands, VR E (ev f z) (ρ z)) :
    ∃ v', VR E v v' ∧ ∀ w, (execOp ρ o).run P w = .ok (.value v') w := by
  obtain ⟨dst, op, type, pos, after, guard⟩ := o
  unfold heapless at h
  simp only at h
  split at h
  · rename_i x; cases h; exact ⟨_, hr x (by simp [Op.operands]), fun w => rfl⟩
  · rename_i x; cases h; exact ⟨_, hr x (by simp [Op.operands]), fun w => rfl⟩
  · rename_i c a b
    have hc := hr c (by simp [Op.operands])
    have ha := hr a (by simp [Op.operands])
    have hb := hr b (by simp [Op.operands])
    split at h <;> cases h
    · rename_i e; rw [e] at hc; exact ⟨_, ha, fun w => by simp [execOp, bool_inv hc, asBool]⟩
    · rename_i e; rw [e] at hc; exact ⟨_, hb, fun w => by simp [execOp, bool_inv hc, asBool]⟩
  · rename_i x
    have hx := hr x (by simp [Op.operands])
    split at h <;> cases h
    · rename_i a e
      rw [e] at hx
      generalize hq : ρ x = q at hx
      cases hx with
      | ptr b o e' he => exact ⟨_, .ptr b o e' he, fun w => by simp [execOp, hq]⟩
    · rename_i g a c e
      rw [e] at hx
      obtain ⟨a', c', e', h1, h2⟩ := hx.func_inv
      exact ⟨_, VR.func' h1 h2, fun w => by simp [execOp, e']⟩
    · rename_i r e
      rw [e] at hx
      generalize hq : ρ x = q at hx
      cases hx with
      | map0 => exact ⟨_, .map0, fun w => by simp [execOp, hq]⟩
      | map r e' he => exact ⟨_, .map r e' he, fun w => by simp [execOp, hq]⟩
  · rename_i x i
    have hx := hr x (by simp [Op.operands])
    split at h
    · rename_i vs e
      rw [e] at hx
      obtain ⟨vs', e', h1⟩ := hx.tuple_inv
      obtain ⟨v', h2, h3⟩ := lr_get h1 h
      exact ⟨v', h3, fun w => by simp [execOp, e', Instr.extract, h2]⟩
    · cases h
  · rename_i t x i
    obtain ⟨v', h1, h2⟩ := fieldA_run h (hr x (by simp [Op.operands]))
    exact ⟨v', h1, fun w => by simp [execOp, h2]⟩
  · rename_i t parts
    have hp : PL E (parts.map fun (i, x) => (i, ev f x)).toList (parts.map fun (i, x) => (i, ρ x)).toList := by
      simp only [Array.toList_map]
      exact pl_map parts.toList fun p hp => hr p.2 (by simp only [Op.operands, List.mem_toArray, List.mem_map]; exact ⟨p, hp, rfl⟩)
    obtain ⟨v', h1, h2⟩ := buildA_run h hp
    exact ⟨v', h1, fun w => by simp only [execOp, Sem.run_bind, h2]; rfl⟩
  · rename_i t x
    have hx := hr x (by simp [Op.operands])
    split at h
    · cases h
    · cases h
    · rename_i d hn hu
      cases h
      refine ⟨_, .iface t _ _ hx, fun w => ?_⟩
      simp only [execOp, Instr.makeInterface, Sem.run_bind, run_underlying hu, Result.andThen_ok]
      cases d <;> first | rfl | exact absurd hu (hn _)
  · rename_i fn first captured
    cases h
    refine ⟨_, VR.func' (f' := first.map ρ) (c' := captured.map ρ) ?_ ?_, fun w => rfl⟩
    · simp only [Array.toList_map]
      exact lr_map _ fun p hp => hr p (by simp [Op.operands, Array.mem_toList_iff.1 hp])
    · simp only [Array.toList_map]
      exact lr_map _ fun p hp => hr p (by simp [Op.operands, Array.mem_toList_iff.1 hp])
  · rename_i t x i
    obtain ⟨v', h1, h2⟩ := fieldAddrA_run h (hr x (by simp [Op.operands]))
    exact ⟨v', h1, fun w => by simp [execOp, h2]⟩
  · rename_i t x i
    obtain ⟨v', h1, h2⟩ := indexAddrA_run h (hr x (by simp [Op.operands])) (hr i (by simp [Op.operands]))
    exact ⟨v', h1, fun w => by simp [execOp, h2]⟩
  · rename_i bop t x y yt
    exact binA_run rfl h hr
  · rename_i t x lo hi mx
    have hx := hr x (by simp [Op.operands])
    split at h
    · rename_i s e hu
      rw [e] at hx
      have hlo : OV E (lo.map (ev f)) (lo.map ρ) := by
        cases lo with
        | none => trivial
        | some z => exact hr z (by simp [Op.operands])
      have hhi : OV E (hi.map (ev f)) (hi.map ρ) := by
        cases hi with
        | none => trivial
        | some z => exact hr z (by simp [Op.operands])
      split at h
      · rename_i hh h1
        split at h
        · rename_i l h2
          cases h
          exact ⟨_, .string _, fun w => by
            rw [takeN_eq, dropN_eq]
            simp only [execOp, string_inv hx, Option.map_none, Sem.run_bind, slice_string_run hu h1 h2 hlo hhi w]; rfl⟩
        · cases h
      · cases h
    · cases h
  · rename_i t x i
    have hx := hr x (by simp [Op.operands])
    have hi := hr i (by simp [Op.operands])
    split at h
    · rename_i s k j e1 e2 hu
      rw [e1] at hx
      rw [e2] at hi
      split at h
      · rename_i j' hj
        obtain ⟨rfl, hlt⟩ := inRange_spec hj
        split at h
        · rename_i b hb
          rw [nth_eq] at hb
          cases h
          exact ⟨_, .int _ _, fun w => by simp only [execOp, string_inv hx, int_inv hi, Sem.run_bind, index_string_run hu hlt hb w]; rfl⟩
        · cases h
      · cases h
    · obtain ⟨v', h1, h2⟩ := indexA_run h hx hi
      exact ⟨v', h1, fun w => by simp [execOp, h2]⟩
  · rename_i args ts
    have hargs : LR E (args.toList.map (ev f)) (args.toList.map ρ) := lr_map _ fun p hp => hr p (by simp [Op.operands, Call.operands, Array.mem_toList_iff.1 hp])
    split at h
    · rename_i a n c t ea et
      rw [ea] at hargs
      split at h
      · rename_i el hu
        cases h
        refine ⟨_, .int _ _, fun w => ?_⟩
        generalize hq : args.toList.map ρ = q at hargs
        match q, hargs with
        | [y], ⟨hy, _⟩ =>
          have ha : args.map ρ = #[y] := by apply Array.toList_inj.1; rw [Array.toList_map, hq]
          have ht : ts = #[t] := by apply Array.toList_inj.1; rw [et]
          have hf : ∃ b c, y = .slice b n c := by cases hy with
            | slice0 => exact ⟨_, _, rfl⟩
            | slice => exact ⟨_, _, rfl⟩
          obtain ⟨b', c', rfl⟩ := hf
          simp [execOp, resolve, ha, ht, invoke, builtin, Builtin.len_, run_underlying hu, goInt]
      · cases h
    · rename_i s t ea et
      rw [ea] at hargs
      split at h
      · rename_i hu
        cases h
        refine ⟨_, .int _ _, fun w => ?_⟩
        generalize hq : args.toList.map ρ = q at hargs
        match q, hargs with
        | [y], ⟨hy, _⟩ =>
          have ha : args.map ρ = #[y] := by apply Array.toList_inj.1; rw [Array.toList_map, hq]
          have ht : ts = #[t] := by apply Array.toList_inj.1; rw [et]
          obtain rfl := string_inv hy
          simp [execOp, resolve, ha, ht, invoke, builtin, Builtin.len_, run_underlying hu, goInt]
      · cases h
    · cases h
  · rename_i src dst x
    split at h
    · rename_i v1 hv
      cases h
      obtain ⟨hb, hrun⟩ := convNat_run (P := P) hv (hr x (by simp [Op.operands]))
      exact ⟨v, bare_self v hb, fun w => by simp only [execOp, Sem.run_bind, hrun]; rfl⟩
    · exact slowOp_run (by simp) hr h
  · exact slowOp_run (by simp) hr h
  · exact slowOp_run (by simp) hr h
  · exact slowOp_run (by simp) hr h
  · exact slowOp_run (by simp) hr h
  · cases h
end
end Go.Proofs.YtcnclcfglfgjlaaGreatDoor.Cx
