/- A machine that runs a program's code on written inputs by computation alone, part 5: the operations that do not look at the heap, continued. No condition. -/
import Derived.Test.YtcnclcfglfgjlaaGreatDoorCxPure
import Derived.Orders
namespace Go.Proofs.YtcnclcfglfgjlaaGreatDoor.Cx
open Go

section
variable {P : Program} {E : Em}
/-- optional operands -/
def OV (E : Em) : Option Value → Option Value → Prop
  | none, none => True
  | some x, some y => VR E x y
  | _, _ => False
theorem boundA_spec {x x' : Option Value} {d n l : Nat} (h : boundA x d n = some l) (hx : OV E x x') : (x' = none ∧ x = none ∧ l = d) ∨ ∃ k, x' = some (.int k (l : Int)) ∧ l ≤ n := by
  unfold boundA at h
  split at h
  · cases h
    cases x' with
    | none => exact .inl ⟨rfl, rfl, rfl⟩
    | some => exact hx.elim
  · rename_i k i
    obtain ⟨rfl, hl⟩ := upTo_spec h
    cases x' with
    | none => exact hx.elim
    | some y => exact .inr ⟨k, by rw [int_inv hx], hl⟩
  · cases h
theorem bounds_run {isS : Bool} {len cap : Nat} {lo hi mx : Option Value} {l h m : Nat}
    (hm : (mx = none ∧ m = cap) ∨ (∃ k, mx = some (.int k (m : Int)) ∧ m ≤ cap))
    (hh : (hi = none ∧ mx = none ∧ h = len) ∨ ∃ k, hi = some (.int k (h : Int)) ∧ h ≤ m)
    (hl : (lo = none ∧ l = 0) ∨ ∃ k, lo = some (.int k (l : Int)) ∧ l ≤ h) (w : World) :
    (Instr.sliceBounds isS len cap lo hi mx).run P w = .ok (l, h, m) w := by
  have one : ∀ (k : IntKind) (a b : Nat) (c : BoundsCode), a ≤ b → (Instr.sliceBound (.int k (a : Int)) b c).run P w = .ok a w := by
    intro k a b c hab
    simp [Instr.sliceBound, asIntOf, hab]
  unfold Instr.sliceBounds
  rcases hm with ⟨rfl, rfl⟩ | ⟨k, rfl, hm⟩
  · rcases hh with ⟨rfl, _, rfl⟩ | ⟨k, rfl, hh⟩
    · rcases hl with ⟨rfl, rfl⟩ | ⟨k, rfl, hl⟩ <;> simp [*]
    · rcases hl with ⟨rfl, rfl⟩ | ⟨k, rfl, hl⟩ <;> simp [*]
  · rcases hh with ⟨rfl, h0, rfl⟩ | ⟨k, rfl, hh⟩
    · cases h0
    · rcases hl with ⟨rfl, rfl⟩ | ⟨k, rfl, hl⟩ <;> simp [*]

theorem string_extract (s : ByteArray) (l h : Nat) : s.extract l h = ⟨((s.data.toList.drop l).take (h - l)).toArray⟩ := by
  apply ByteArray.ext
  rw [ByteArray.data_extract]
  apply Array.toList_inj.1
  rw [Array.toList_extract]
theorem slice_string_run {t l h : Nat} {s : ByteArray} {lo hi : Option Value} (hu : P.underlying t = some .string)
    (hh : boundA hi s.size s.size = some h) (hl : boundA lo 0 h = some l) {lo' hi' : Option Value} (hlo : OV E lo lo') (hhi : OV E hi hi') (w : World) :
    (Instr.sliceAt t (.string s) lo' hi' none).run P w = .ok (.string ⟨((s.data.toList.drop l).take (h - l)).toArray⟩) w := by
  have hb := bounds_run (P := P) (isS := false) (len := s.size) (cap := s.size) (lo := lo') (hi := hi') (mx := none) (l := l) (h := h) (m := s.size) (.inl ⟨rfl, rfl⟩)
    (by rcases boundA_spec hh hhi with ⟨h1, _, h2⟩ | ⟨k, h1, h2⟩
        · exact .inl ⟨h1, rfl, h2⟩
        · exact .inr ⟨k, h1, h2⟩)
    (by rcases boundA_spec hl hlo with ⟨h1, _, h2⟩ | ⟨k, h1, h2⟩
        · exact .inl ⟨h1, h2⟩
        · exact .inr ⟨k, h1, h2⟩)
  simp [Instr.sliceAt, Instr.slice, run_underlying hu, hb, string_extract]

theorem index_string_run {t j : Nat} {k : IntKind} {s : ByteArray} {b : UInt8} (hu : P.underlying t = some .string) (hj : j < s.size) (hb : s.data.toList[j]? = some b) (w : World) :
    (Instr.index t (.string s) (.int k (j : Int))).run P w = .ok (.int .u8 b.toNat) w := by
  have hr := Base.run_byte (P := P) t hu s k (j : Int) (by omega) (by exact_mod_cast hj) w
  rw [hr]
  congr 3
  simp [Base.byteAt, List.getD_eq_getElem?_getD, hb]

/-- parts laid into cells -/
theorem lr_set {c c' : Array Value} (h : LR E c.toList c'.toList) {v v' : Value} (hv : VR E v v') (i : Nat) : LR E (c.setIfInBounds i v).toList (c'.setIfInBounds i v').toList := by
  refine LR.of_at (by simpa using h.length) fun j x y hx hy => ?_
  simp only [Array.toList_setIfInBounds, List.getElem?_set] at hx hy
  have hl : c.toList.length = c'.toList.length := h.length
  by_cases hij : i = j
  · subst hij
    rw [if_pos rfl] at hx hy
    split at hx
    · split at hy
      · cases hx; cases hy; exact hv
      · cases hy
    · cases hx
  · rw [if_neg hij] at hx hy
    obtain ⟨y', hy', hr⟩ := h.at j x hx
    rw [hy] at hy'
    cases hy'
    exact hr
theorem lr_foldl (off : Nat) : ∀ (vs vs' : List Value) (n : Nat) (c c' : Array Value), LR E vs vs' → LR E c.toList c'.toList →
    LR E ((vs.zipIdx n).foldl (fun cs (x, j) => cs.setIfInBounds (off + j) x) c).toList ((vs'.zipIdx n).foldl (fun cs (x, j) => cs.setIfInBounds (off + j) x) c').toList
  | [], [], _, _, _, _, h => h
  | v :: vs, v' :: vs', n, c, c', hv, h => by
    simp only [List.zipIdx_cons, List.foldl_cons]
    exact lr_foldl off vs vs' (n + 1) _ _ hv.2 (lr_set h hv.1 (off + n))
  | [], _ :: _, _, _, _, h, _ => h.elim
  | _ :: _, [], _, _, _, h, _ => h.elim
/-- parts of a literal -/
def PL (E : Em) : List (Nat × Value) → List (Nat × Value) → Prop
  | [], [] => True
  | x :: xs, y :: ys => x.1 = y.1 ∧ VR E x.2 y.2 ∧ PL E xs ys
  | _, _ => False
theorem fill_rel {place : Nat → Option (Nat × Nat)} : ∀ (ps ps' : List (Nat × Value)) (c c' r : Array Value), PL E ps ps' → LR E c.toList c'.toList → Instr.fill place c ps = some r →
    ∃ r', Instr.fill place c' ps' = some r' ∧ LR E r.toList r'.toList
  | [], [], c, c', r, _, hc, h => by
    simp only [Instr.fill, Option.some.injEq] at h
    subst h
    exact ⟨c', rfl, hc⟩
  | (i, v) :: ps, (j, v') :: ps', c, c', r, hp, hc, h => by
    obtain ⟨rfl, hv, hp⟩ := hp
    have hcells := hv.cells
    have hsz : v.cells.size = v'.cells.size := by simpa using hcells.length
    have hcs : c.size = c'.size := by simpa using hc.length
    simp only [Instr.fill] at h ⊢
    split at h
    · cases h
    · rename_i off size hpl
      split at h
      · cases h
      · rename_i hcond
        rw [← hsz, ← hcs]
        rw [if_neg hcond]
        have := lr_foldl (E := E) off v.cells.toList v'.cells.toList 0 c c' hcells hc
        have e : ∀ (a : Array Value) (c : Array Value), a.zipIdx.foldl (fun cs (x, j) => cs.setIfInBounds (off + j) x) c = (a.toList.zipIdx 0).foldl (fun cs (x, j) => cs.setIfInBounds (off + j) x) c := by
          intro a c
          rw [← Array.foldl_toList, Array.toList_zipIdx]
        refine fill_rel ps ps' _ _ r hp ?_ h
        rw [e, e]
        exact this
  | [], _ :: _, _, _, _, h, _, _ => h.elim
  | _ :: _, [], _, _, _, h, _, _ => h.elim
theorem pl_map {σ ρ : Operand → Value} : ∀ (l : List (Nat × Operand)), (∀ p ∈ l, VR E (σ p.2) (ρ p.2)) → PL E (l.map fun p => (p.1, σ p.2)) (l.map fun p => (p.1, ρ p.2))
  | [], _ => trivial
  | p :: l, h => ⟨rfl, h p (by simp), pl_map l fun q hq => h q (by simp [hq])⟩
theorem lr_map {σ ρ : Operand → Value} : ∀ (l : List Operand), (∀ p ∈ l, VR E (σ p) (ρ p)) → LR E (l.map σ) (l.map ρ)
  | [], _ => trivial
  | p :: l, h => ⟨h p (by simp), lr_map l fun q hq => h q (by simp [hq])⟩

theorem mapM_places {P : Program} : ∀ (fs : List Field) (pl : List (Nat × Nat)), fs.mapM (fun f => (sizeT P f.type).map fun n => (f.offset, n)) = some pl → ∀ w,
    (fs.mapM (fun f => do pure (f.offset, ← sizeOf f.type)) : Sem _).run P w = .ok pl w
  | [], pl, h, w => by simp at h; subst h; rfl
  | f :: fs, pl, h, w => by
    simp only [List.mapM_cons, Option.bind_eq_bind, Option.pure_def] at h
    cases hs : sizeT P f.type with
    | none => simp [hs] at h
    | some n =>
      cases hr : fs.mapM (fun f => (sizeT P f.type).map fun n => (f.offset, n)) with
      | none => simp [hs, hr] at h
      | some pl' =>
        simp [hs, hr] at h
        subst h
        have ih := mapM_places fs pl' hr w
        rw [List.mapM_cons, Sem.run_bind, Sem.run_bind, sizeT_run hs]
        simp only [Result.andThen_ok, Sem.run_pure]
        rw [Sem.run_bind, ih]
        rfl
theorem buildA_run {t : Nat} {parts parts' : Array (Nat × Value)} {v : Value} (h : buildA P t parts = some v) (hp : PL E parts.toList parts'.toList) :
    ∃ v', VR E v v' ∧ ∀ w, (Instr.build t parts').run P w = .ok v' w := by
  unfold buildA at h
  split at h <;> first | (cases h; done) | skip
  rename_i i hi
  split at h <;> first | (cases h; done) | skip
  rename_i z hz
  split at h <;> first | (cases h; done) | skip
  rename_i hb
  have hzc : LR E z.cells.toList z.cells.toList := (bare_self (E := E) z hb).cells
  split at h
  · rename_i fs hu
    split at h <;> first | (cases h; done) | skip
    rename_i pl hpl
    split at h <;> first | (cases h; done) | skip
    rename_i cs hcs
    cases h
    obtain ⟨r', hr', hl⟩ := fill_rel _ _ _ _ _ hp hzc hcs
    refine ⟨_, VR.agg' hl, fun w => ?_⟩
    have hm := mapM_places fs.toList pl hpl w
    have hm' : (fs.mapM (fun f => do pure (f.offset, ← sizeOf f.type)) : Sem _).run P w = .ok pl.toArray w := by
      have := congrArg (fun r => Result.andThen r fun a w => Result.ok (List.toArray a) w) hm
      simp only [Result.andThen_ok] at this
      rw [← Sem.run_map] at this
      rw [← this, ← List.mapM_toArray]
    simp only [bind_pure_comp] at hm'
    simp [Instr.build, zeroValue, typeInfo, hi, hz, run_underlying hu, hm', hr']
  · rename_i n e hu
    split at h <;> first | (cases h; done) | skip
    rename_i n hn
    split at h <;> first | (cases h; done) | skip
    rename_i cs hcs
    cases h
    obtain ⟨r', hr', hl⟩ := fill_rel _ _ _ _ _ hp hzc hcs
    refine ⟨_, VR.agg' hl, fun w => ?_⟩
    simp [Instr.build, zeroValue, typeInfo, hi, hz, run_underlying hu, sizeT_run hn, hr']
  · cases h
end
end Go.Proofs.YtcnclcfglfgjlaaGreatDoor.Cx
