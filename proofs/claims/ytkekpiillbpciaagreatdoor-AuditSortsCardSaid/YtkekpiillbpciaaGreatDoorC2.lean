/- CxPure; CxPure2; CxPure3: merged into one text: lemmas for the walk of the law. No condition. -/
import Derived.Test.YtkekpiillbpciaaGreatDoorC1
import Derived.WalkKit
import Derived.Orders
import Derived.Lib.Builder
import Derived.Lib.UnsafeStr
/- A machine that runs a program's code on written inputs by computation alone, part 4: the operations that do not look at the heap. No condition. -/
namespace Go.Proofs.YtkekpiillbpciaaGreatDoor.Cx
open Go

theorem pureRun_run {P : Program} {α : Type} : ∀ (s : Sem α) (a : α), pureRun P s = some a → ∀ w, s.run P w = .ok a w := by
  intro s
  induction s with
  | pure b => intro a h w; simp only [pureRun, Option.some.injEq] at h; subst h; rfl
  | program k ih => intro a h w; simp only [pureRun] at h; simp only [Sem.run]; exact ih P a h w
  | mark m k ih => intro a h w; simp only [pureRun] at h; simp only [Sem.run]; exact ih a h w
  | _ => intro a h; simp [pureRun] at h

structure TR (E : Em) (f : AF) (a : Act) : Prop where
  size : a.tmps.size = f.size
  get : ∀ t, VR E (f.get t) (a.tmps.getD t undef)

def GL (E : Em) (G : Gl) : Prop := ∀ g ∈ G.vars, ∃ e, E g = some e ∧ e.blk = g

theorem ev_rel {E : Em} {G : Gl} {f : AF} {a : Act} (T : TR E f a) (L : GL E G) {x : Operand} (h : okOp G x = true) : VR E (ev f x) (a.eval x) := by
  cases x with
  | tmp t => exact T.get t
  | const v => exact bare_self v h
  | global g =>
    obtain ⟨e, he, hb⟩ := L g (by simpa [okOp] using h)
    have := VR.ptr g 0 e he
    rw [hb] at this
    exact this
  | func g => exact VR.func' trivial trivial

section
variable {P : Program} {E : Em}
theorem sizeT_run {t n : Nat} (h : sizeT P t = some n) (w : World) : (sizeOf t).run P w = .ok n w := by
  unfold sizeT at h
  split at h
  · rename_i i hi; cases h; simp [sizeOf, typeInfo, hi]
  · cases h
theorem under_run {t : Nat} {d : TypeDesc} (h : P.underlying t = some d) (w : World) : (underlying t).run P w = .ok d w := run_underlying h w
theorem aggT_run {t : Nat} {b : Bool} (h : aggT P t = some b) (w : World) : (isAgg t).run P w = .ok b w := by
  unfold aggT at h
  split at h <;> first | cases h | skip
  · rename_i hu; simp [isAgg, run_underlying hu]
  · rename_i hu; simp [isAgg, run_underlying hu]
  · rename_i d h1 h2 hu
    simp only [isAgg, Sem.run_bind, run_underlying hu, Result.andThen]
    cases d <;> first | rfl | exact absurd hu (h1 _) | exact absurd hu (h2 _ _)
theorem lr_extract {c c' : Array Value} (h : LR E c.toList c'.toList) (i j : Nat) : LR E (c.extract i j).toList (c'.extract i j).toList := by
  simp only [Array.toList_extract]
  exact (h.drop i).take _
theorem lr_get {c c' : Array Value} (h : LR E c.toList c'.toList) {i : Nat} {v : Value} (hv : c[i]? = some v) : ∃ v', c'[i]? = some v' ∧ VR E v v' := by
  have := h.at i v (by simpa using hv)
  simpa using this
theorem partA_run {t off : Nat} {cs cs' : Array Value} {v : Value} (h : partA P t cs off = some v) (hc : LR E cs.toList cs'.toList) :
    ∃ v', VR E v v' ∧ ∀ w, (part t cs' off).run P w = .ok v' w := by
  unfold partA at h
  split at h
  · rename_i ha
    split at h
    · rename_i n hn
      split at h
      · cases h
        exact ⟨_, VR.agg' (lr_extract hc _ _), fun w => by simp [part, aggT_run ha, sizeT_run hn]⟩
      · cases h
    · cases h
  · rename_i ha
    obtain ⟨v', hv', hr⟩ := lr_get hc h
    exact ⟨v', hr, fun w => by simp [part, aggT_run ha, hv']⟩
  · cases h
theorem inRange_spec {i : Int} {n j : Nat} (h : inRange i n = some j) : i = (j : Int) ∧ j < n := by
  unfold inRange at h
  split at h
  · rename_i m
    split at h
    · rename_i hb; cases h; exact ⟨rfl, by simpa [Nat.blt_eq] using hb⟩
    · cases h
  · cases h
theorem upTo_spec {i : Int} {n j : Nat} (h : upTo i n = some j) : i = (j : Int) ∧ j ≤ n := by
  unfold upTo at h
  split at h
  · rename_i m
    split at h
    · rename_i hb; cases h; exact ⟨rfl, by simpa using hb⟩
    · cases h
  · cases h
theorem add_eq (b o n : Nat) : (⟨b, o, none⟩ : Addr).add n = ⟨b, o + n, none⟩ := by
  unfold Addr.add
  split
  · rename_i h; subst h; rfl
  · rfl
theorem ptr_inv {b o : Nat} {v : Value} (h : VR E (.pointer (some ⟨b, o, none⟩)) v) : ∃ e, E b = some e ∧ v = .pointer (some ⟨e.blk, o, none⟩) := by
  cases h with
  | ptr b o e he => exact ⟨e, he, rfl⟩
theorem slice_inv {b o l c : Nat} {v : Value} (h : VR E (.slice (some ⟨b, o, none⟩) l c) v) : ∃ e c', E b = some e ∧ v = .slice (some ⟨e.blk, o, none⟩) l c' ∧ (c = c' ∨ (c = unk ∧ (e.esz = 0 ∨ o + c' * e.esz = e.rows))) ∧ l ≤ c' ∧ (e.esz = 0 ∨ o + c' * e.esz ≤ e.rows) ∧ c' < unk := by
  cases h with
  | slice b o l c c' e he h1 h2 h3 h4 => exact ⟨e, c', he, rfl, h1, h2, h3, h4⟩
theorem int_inv {k : IntKind} {n : Int} {v : Value} (h : VR E (.int k n) v) : v = .int k n := by cases h; rfl
theorem string_inv {s : ByteArray} {v : Value} (h : VR E (.string s) v) : v = .string s := by cases h; rfl
theorem bool_inv {b : Bool} {v : Value} (h : VR E (.bool b) v) : v = .bool b := by cases h; rfl
theorem slice0_inv {l c : Nat} {v : Value} (h : VR E (.slice none l c) v) : v = .slice none l c := by cases h; rfl

theorem fieldAddrA_run {t i : Nat} {x x' v : Value} (h : fieldAddrA P t x i = some v) (hx : VR E x x') :
    ∃ v', VR E v v' ∧ ∀ w, (Instr.fieldAt t x' i).run P w = .ok v' w := by
  unfold fieldAddrA at h
  split at h
  · rename_i fs b o hu
    split at h
    · rename_i fd hfd
      split at h
      · rename_i n hn
        cases h
        obtain ⟨e, he, rfl⟩ := ptr_inv hx
        refine ⟨_, VR.ptr b (o + fd.offset) e he, fun w => ?_⟩
        simp [Instr.fieldAt, run_underlying hu, hfd, Instr.sureAddr, fieldPlace, sizeT_run hn, add_eq]
      · cases h
    · cases h
  · cases h
theorem indexAddrA_run {t : Nat} {x x' ix ix' v : Value} (h : indexAddrA P t x ix = some v) (hx : VR E x x') (hi : VR E ix ix') :
    ∃ v', VR E v v' ∧ ∀ w, (Instr.indexAt t x' ix').run P w = .ok v' w := by
  unfold indexAddrA at h
  split at h
  · rename_i el b o n c k i hu
    split at h
    · rename_i j z hj hz
      cases h
      obtain ⟨e, c', he, rfl, _⟩ := slice_inv hx
      obtain rfl := int_inv hi
      obtain ⟨rfl, hlt⟩ := inRange_spec hj
      refine ⟨_, VR.ptr b (o + j * z) e he, fun w => ?_⟩
      simp [Instr.indexAt, asIntOf, run_underlying hu, hlt, sizeT_run hz, add_eq]
    · cases h
  · rename_i n el b o k i hu
    split at h
    · rename_i j z hj hz
      cases h
      obtain ⟨e, he, rfl⟩ := ptr_inv hx
      obtain rfl := int_inv hi
      obtain ⟨rfl, hlt⟩ := inRange_spec hj
      refine ⟨_, VR.ptr b (o + j * z) e he, fun w => ?_⟩
      simp [Instr.indexAt, Instr.sureAddr, asIntOf, run_underlying hu, hlt, sizeT_run hz, add_eq]
    · cases h
  · cases h
theorem fieldA_run {t i : Nat} {x x' v : Value} (h : fieldA P t x i = some v) (hx : VR E x x') :
    ∃ v', VR E v v' ∧ ∀ w, (Instr.field t x' i).run P w = .ok v' w := by
  unfold fieldA at h
  split at h
  · rename_i fs cs hu
    split at h
    · rename_i fd hfd
      obtain ⟨cs', rfl, hc⟩ := hx.agg_inv
      obtain ⟨v', hv, hr⟩ := partA_run h hc
      exact ⟨v', hv, fun w => by simp [Instr.field, run_underlying hu, hfd, asAgg, hr]⟩
    · cases h
  · cases h
theorem indexA_run {t : Nat} {x x' ix ix' v : Value} (h : indexA P t x ix = some v) (hx : VR E x x') (hi : VR E ix ix') :
    ∃ v', VR E v v' ∧ ∀ w, (Instr.index t x' ix').run P w = .ok v' w := by
  unfold indexA at h
  split at h
  · rename_i n el cs k i hu
    split at h
    · rename_i j z hj hz
      obtain ⟨cs', rfl, hc⟩ := hx.agg_inv
      obtain rfl := int_inv hi
      obtain ⟨rfl, hlt⟩ := inRange_spec hj
      obtain ⟨v', hv, hr⟩ := partA_run h hc
      exact ⟨v', hv, fun w => by simp [Instr.index, asIntOf, run_underlying hu, hlt, sizeT_run hz, hr]⟩
    · cases h
  · cases h
end
end Go.Proofs.YtkekpiillbpciaaGreatDoor.Cx

/- A machine that runs a program's code on written inputs by computation alone, part 5: the operations that do not look at the heap, continued. No condition. -/
namespace Go.Proofs.YtkekpiillbpciaaGreatDoor.Cx
open Go

section
variable {P : Program} {E : Em}
/-- optional operands -/
def OV (E : Em) : Option Value → Option Value → Prop
  | none, none => True
  | some x, some y => VR E x y
  | _, _ => False
theorem boundA_spec {x x' : Option Value} {d n l : Nat} (h : boundA x d n = some l) (hx : OV E x x') : (x' = none ∧ x = none ∧ l = d) ∨ ∃ k, x' = some (.int k (l : Int)) ∧ l ≤ n := by
  unfold boundA at h
  split at h
  · cases h
    cases x' with
    | none => exact .inl ⟨rfl, rfl, rfl⟩
    | some => exact hx.elim
  · rename_i k i
    obtain ⟨rfl, hl⟩ := upTo_spec h
    cases x' with
    | none => exact hx.elim
    | some y => exact .inr ⟨k, by rw [int_inv hx], hl⟩
  · cases h
theorem bounds_run {isS : Bool} {len cap : Nat} {lo hi mx : Option Value} {l h m : Nat}
    (hm : (mx = none ∧ m = cap) ∨ (∃ k, mx = some (.int k (m : Int)) ∧ m ≤ cap))
    (hh : (hi = none ∧ mx = none ∧ h = len) ∨ ∃ k, hi = some (.int k (h : Int)) ∧ h ≤ m)
    (hl : (lo = none ∧ l = 0) ∨ ∃ k, lo = some (.int k (l : Int)) ∧ l ≤ h) (w : World) :
    (Instr.sliceBounds isS len cap lo hi mx).run P w = .ok (l, h, m) w := by
  have one : ∀ (k : IntKind) (a b : Nat) (c : BoundsCode), a ≤ b → (Instr.sliceBound (.int k (a : Int)) b c).run P w = .ok a w := by
    intro k a b c hab
    simp [Instr.sliceBound, asIntOf, hab]
  unfold Instr.sliceBounds
  rcases hm with ⟨rfl, rfl⟩ | ⟨k, rfl, hm⟩
  · rcases hh with ⟨rfl, _, rfl⟩ | ⟨k, rfl, hh⟩
    · rcases hl with ⟨rfl, rfl⟩ | ⟨k, rfl, hl⟩ <;> simp [*]
    · rcases hl with ⟨rfl, rfl⟩ | ⟨k, rfl, hl⟩ <;> simp [*]
  · rcases hh with ⟨rfl, h0, rfl⟩ | ⟨k, rfl, hh⟩
    · cases h0
    · rcases hl with ⟨rfl, rfl⟩ | ⟨k, rfl, hl⟩ <;> simp [*]

theorem string_extract (s : ByteArray) (l h : Nat) : s.extract l h = ⟨((s.data.toList.drop l).take (h - l)).toArray⟩ := by
  apply ByteArray.ext
  rw [ByteArray.data_extract]
  apply Array.toList_inj.1
  rw [Array.toList_extract]
theorem slice_string_run {t l h : Nat} {s : ByteArray} {lo hi : Option Value} (hu : P.underlying t = some .string)
    (hh : boundA hi s.size s.size = some h) (hl : boundA lo 0 h = some l) {lo' hi' : Option Value} (hlo : OV E lo lo') (hhi : OV E hi hi') (w : World) :
    (Instr.sliceAt t (.string s) lo' hi' none).run P w = .ok (.string ⟨((s.data.toList.drop l).take (h - l)).toArray⟩) w := by
  have hb := bounds_run (P := P) (isS := false) (len := s.size) (cap := s.size) (lo := lo') (hi := hi') (mx := none) (l := l) (h := h) (m := s.size) (.inl ⟨rfl, rfl⟩)
    (by rcases boundA_spec hh hhi with ⟨h1, _, h2⟩ | ⟨k, h1, h2⟩
        · exact .inl ⟨h1, rfl, h2⟩
        · exact .inr ⟨k, h1, h2⟩)
    (by rcases boundA_spec hl hlo with ⟨h1, _, h2⟩ | ⟨k, h1, h2⟩
        · exact .inl ⟨h1, h2⟩
        · exact .inr ⟨k, h1, h2⟩)
  simp [Instr.sliceAt, Instr.slice, run_underlying hu, hb, string_extract]

theorem index_string_run {t j : Nat} {k : IntKind} {s : ByteArray} {b : UInt8} (hu : P.underlying t = some .string) (hj : j < s.size) (hb : s.data.toList[j]? = some b) (w : World) :
    (Instr.index t (.string s) (.int k (j : Int))).run P w = .ok (.int .u8 b.toNat) w := by
  have hr := Base.run_byte (P := P) t hu s k (j : Int) (by omega) (by exact_mod_cast hj) w
  rw [hr]
  congr 3
  simp [Base.byteAt, List.getD_eq_getElem?_getD, hb]

/-- parts laid into cells -/
theorem lr_set {c c' : Array Value} (h : LR E c.toList c'.toList) {v v' : Value} (hv : VR E v v') (i : Nat) : LR E (c.setIfInBounds i v).toList (c'.setIfInBounds i v').toList := by
  refine LR.of_at (by simpa using h.length) fun j x y hx hy => ?_
  simp only [Array.toList_setIfInBounds, List.getElem?_set] at hx hy
  have hl : c.toList.length = c'.toList.length := h.length
  by_cases hij : i = j
  · subst hij
    rw [if_pos rfl] at hx hy
    split at hx
    · split at hy
      · cases hx; cases hy; exact hv
      · cases hy
    · cases hx
  · rw [if_neg hij] at hx hy
    obtain ⟨y', hy', hr⟩ := h.at j x hx
    rw [hy] at hy'
    cases hy'
    exact hr
theorem lr_foldl (off : Nat) : ∀ (vs vs' : List Value) (n : Nat) (c c' : Array Value), LR E vs vs' → LR E c.toList c'.toList →
    LR E ((vs.zipIdx n).foldl (fun cs (x, j) => cs.setIfInBounds (off + j) x) c).toList ((vs'.zipIdx n).foldl (fun cs (x, j) => cs.setIfInBounds (off + j) x) c').toList
  | [], [], _, _, _, _, h => h
  | v :: vs, v' :: vs', n, c, c', hv, h => by
    simp only [List.zipIdx_cons, List.foldl_cons]
    exact lr_foldl off vs vs' (n + 1) _ _ hv.2 (lr_set h hv.1 (off + n))
  | [], _ :: _, _, _, _, h, _ => h.elim
  | _ :: _, [], _, _, _, h, _ => h.elim
/-- parts of a literal -/
def PL (E : Em) : List (Nat × Value) → List (Nat × Value) → Prop
  | [], [] => True
  | x :: xs, y :: ys => x.1 = y.1 ∧ VR E x.2 y.2 ∧ PL E xs ys
  | _, _ => False
theorem fill_rel {place : Nat → Option (Nat × Nat)} : ∀ (ps ps' : List (Nat × Value)) (c c' r : Array Value), PL E ps ps' → LR E c.toList c'.toList → Instr.fill place c ps = some r →
    ∃ r', Instr.fill place c' ps' = some r' ∧ LR E r.toList r'.toList
  | [], [], c, c', r, _, hc, h => by
    simp only [Instr.fill, Option.some.injEq] at h
    subst h
    exact ⟨c', rfl, hc⟩
  | (i, v) :: ps, (j, v') :: ps', c, c', r, hp, hc, h => by
    obtain ⟨rfl, hv, hp⟩ := hp
    have hcells := hv.cells
    have hsz : v.cells.size = v'.cells.size := by simpa using hcells.length
    have hcs : c.size = c'.size := by simpa using hc.length
    simp only [Instr.fill] at h ⊢
    split at h
    · cases h
    · rename_i off size hpl
      split at h
      · cases h
      · rename_i hcond
        rw [← hsz, ← hcs]
        rw [if_neg hcond]
        have := lr_foldl (E := E) off v.cells.toList v'.cells.toList 0 c c' hcells hc
        have e : ∀ (a : Array Value) (c : Array Value), a.zipIdx.foldl (fun cs (x, j) => cs.setIfInBounds (off + j) x) c = (a.toList.zipIdx 0).foldl (fun cs (x, j) => cs.setIfInBounds (off + j) x) c := by
          intro a c
          rw [← Array.foldl_toList, Array.toList_zipIdx]
        refine fill_rel ps ps' _ _ r hp ?_ h
        rw [e, e]
        exact this
  | [], _ :: _, _, _, _, h, _, _ => h.elim
  | _ :: _, [], _, _, _, h, _, _ => h.elim
theorem pl_map {σ ρ : Operand → Value} : ∀ (l : List (Nat × Operand)), (∀ p ∈ l, VR E (σ p.2) (ρ p.2)) → PL E (l.map fun p => (p.1, σ p.2)) (l.map fun p => (p.1, ρ p.2))
  | [], _ => trivial
  | p :: l, h => ⟨rfl, h p (by simp), pl_map l fun q hq => h q (by simp [hq])⟩
theorem lr_map {σ ρ : Operand → Value} : ∀ (l : List Operand), (∀ p ∈ l, VR E (σ p) (ρ p)) → LR E (l.map σ) (l.map ρ)
  | [], _ => trivial
  | p :: l, h => ⟨h p (by simp), lr_map l fun q hq => h q (by simp [hq])⟩

theorem mapM_places {P : Program} : ∀ (fs : List Field) (pl : List (Nat × Nat)), fs.mapM (fun f => (sizeT P f.type).map fun n => (f.offset, n)) = some pl → ∀ w,
    (fs.mapM (fun f => do pure (f.offset, ← sizeOf f.type)) : Sem _).run P w = .ok pl w
  | [], pl, h, w => by simp at h; subst h; rfl
  | f :: fs, pl, h, w => by
    simp only [List.mapM_cons, Option.bind_eq_bind, Option.pure_def] at h
    cases hs : sizeT P f.type with
    | none => simp [hs] at h
    | some n =>
      cases hr : fs.mapM (fun f => (sizeT P f.type).map fun n => (f.offset, n)) with
      | none => simp [hs, hr] at h
      | some pl' =>
        simp [hs, hr] at h
        subst h
        have ih := mapM_places fs pl' hr w
        rw [List.mapM_cons, Sem.run_bind, Sem.run_bind, sizeT_run hs]
        simp only [Result.andThen_ok, Sem.run_pure]
        rw [Sem.run_bind, ih]
        rfl
theorem buildA_run {t : Nat} {parts parts' : Array (Nat × Value)} {v : Value} (h : buildA P t parts = some v) (hp : PL E parts.toList parts'.toList) :
    ∃ v', VR E v v' ∧ ∀ w, (Instr.build t parts').run P w = .ok v' w := by
  unfold buildA at h
  split at h <;> first | (cases h; done) | skip
  rename_i i hi
  split at h <;> first | (cases h; done) | skip
  rename_i z hz
  split at h <;> first | (cases h; done) | skip
  rename_i hb
  have hzc : LR E z.cells.toList z.cells.toList := (bare_self (E := E) z hb).cells
  split at h
  · rename_i fs hu
    split at h <;> first | (cases h; done) | skip
    rename_i pl hpl
    split at h <;> first | (cases h; done) | skip
    rename_i cs hcs
    cases h
    obtain ⟨r', hr', hl⟩ := fill_rel _ _ _ _ _ hp hzc hcs
    refine ⟨_, VR.agg' hl, fun w => ?_⟩
    have hm := mapM_places fs.toList pl hpl w
    have hm' : (fs.mapM (fun f => do pure (f.offset, ← sizeOf f.type)) : Sem _).run P w = .ok pl.toArray w := by
      have := congrArg (fun r => Result.andThen r fun a w => Result.ok (List.toArray a) w) hm
      simp only [Result.andThen_ok] at this
      rw [← Sem.run_map] at this
      rw [← this, ← List.mapM_toArray]
    simp only [bind_pure_comp] at hm'
    simp [Instr.build, zeroValue, typeInfo, hi, hz, run_underlying hu, hm', hr']
  · rename_i n e hu
    split at h <;> first | (cases h; done) | skip
    rename_i n hn
    split at h <;> first | (cases h; done) | skip
    rename_i cs hcs
    cases h
    obtain ⟨r', hr', hl⟩ := fill_rel _ _ _ _ _ hp hzc hcs
    refine ⟨_, VR.agg' hl, fun w => ?_⟩
    simp [Instr.build, zeroValue, typeInfo, hi, hz, run_underlying hu, sizeT_run hn, hr']
  · cases h
theorem foldl_at (off : Nat) : ∀ (vs : List Value) (n : Nat) (c : Array Value), off + n + vs.length ≤ c.size → ((vs.zipIdx n).foldl (fun cs (x, j) => cs.setIfInBounds (off + j) x) c).toList = c.toList.take (off + n) ++ (vs ++ c.toList.drop (off + n + vs.length))
  | [], n, c, h => by
    simp only [List.zipIdx_nil, List.foldl_nil, List.nil_append, List.length_nil, Nat.add_zero]
    rw [List.take_append_drop]
  | v :: vs, n, c, h => by
    simp only [List.length_cons] at h
    simp only [List.zipIdx_cons, List.foldl_cons]
    rw [foldl_at off vs (n + 1) (c.setIfInBounds (off + n) v) (by simp; omega), Array.toList_setIfInBounds]
    have e1 : (c.toList.set (off + n) v).take (off + (n + 1)) = c.toList.take (off + n) ++ [v] := by
      rw [show off + (n + 1) = (off + n) + 1 by omega, List.take_add_one, List.getElem?_set_self (by simp; omega), List.take_set_of_le (Nat.le_refl _)]
      rfl
    have e2 : (c.toList.set (off + n) v).drop (off + (n + 1) + vs.length) = c.toList.drop (off + n + (v :: vs).length) := by
      rw [List.drop_set_of_lt (by omega)]
      congr 1
      simp only [List.length_cons]
      omega
    rw [e1, e2]
    simp
theorem fillL_old {pl : List (Nat × Nat)} : ∀ (ps : List (Nat × Value)) (c : Array Value) (l : List Value), fillL pl ps c.toList = some l → Instr.fill (pl[·]?) c ps = some ⟨l⟩
  | [], c, l, h => by
    cases h
    rfl
  | (i, v) :: r, c, l, h => by
    unfold fillL at h
    rw [nth_eq] at h
    split at h
    · rename_i off size hp
      split at h
      · rename_i hc
        rw [Bool.and_eq_true, lenIs_eq] at hc
        have h1 := Nat.eq_of_beq_eq_true hc.1
        have h2 := leLen_le _ _ hc.2
        simp only [Array.length_toList] at h1 h2
        have hf := foldl_at off v.cells.toList 0 c (by simp; omega)
        simp only [Instr.fill, hp]
        rw [if_neg (by simp [h1.symm]; omega)]
        have e : v.cells.zipIdx.foldl (fun cs (x, j) => cs.setIfInBounds (off + j) x) c = (v.cells.toList.zipIdx 0).foldl (fun cs (x, j) => cs.setIfInBounds (off + j) x) c := by
          rw [← Array.foldl_toList, Array.toList_zipIdx]
        refine fillL_old r _ l ?_
        rw [e, hf, ← h, spliceN_eq]
        simp
      · cases h
    · cases h
theorem buildF_old {P : Program} {t : Nat} {ps : List (Nat × Value)} {v : Value} (h : buildF P t ps = some v) : buildA P t ps.toArray = some v := by
  unfold buildF at h
  split at h
  · rename_i fs hu
    split at h <;> first | (cases h; done) | skip
    rename_i i hi
    split at h <;> first | (cases h; done) | skip
    rename_i z hz
    split at h <;> first | (cases h; done) | skip
    rename_i hb
    split at h <;> first | (cases h; done) | skip
    rename_i pl hpl
    split at h <;> first | (cases h; done) | skip
    rename_i cs hcs
    unfold buildA
    simp only [hi, hz, hb, hu, hpl, fillL_old _ _ _ hcs]
    exact h
  · exact h
end
end Go.Proofs.YtkekpiillbpciaaGreatDoor.Cx

/- A machine that runs a program's code on written inputs by computation alone, part 6: every operation that does not look at the heap answers as the model's. No condition. -/
namespace Go.Proofs.YtkekpiillbpciaaGreatDoor.Cx
open Go

section
variable {P : Program} {E : Em}
theorem bytesBeq_eq : ∀ (x y : List UInt8), bytesBeq x y = (x == y)
  | [], [] => rfl
  | [], _ :: _ => rfl
  | _ :: _, [] => rfl
  | a :: x, b :: y => by
    unfold bytesBeq
    by_cases h : a.toNat = b.toNat
    · have hab : a = b := UInt8.toNat_inj.1 h
      subst hab
      simp [bytesBeq_eq x y]
    · rw [nbeq_f h]
      have hab : a ≠ b := fun e => h (by rw [e])
      simp [hab]
theorem bytesLess_eq : ∀ (x y : List UInt8), bytesLess x y = Op.bytesLess x y
  | [], [] => rfl
  | [], _ :: _ => rfl
  | _ :: _, [] => rfl
  | a :: x, b :: y => by
    unfold bytesLess Op.bytesLess
    by_cases hlt : a.toNat < b.toNat
    · have h1 : Nat.blt a.toNat b.toNat = true := by simpa [Nat.blt_eq] using hlt
      have h2 : a < b := UInt8.lt_iff_toNat_lt.2 hlt
      simp [h1, h2]
    · have h1 : Nat.blt a.toNat b.toNat = false := by
        cases hb : Nat.blt a.toNat b.toNat
        · rfl
        · exact absurd (by simpa [Nat.blt_eq] using hb) hlt
      have h2 : ¬ a < b := fun h => hlt (UInt8.lt_iff_toNat_lt.1 h)
      by_cases h : a.toNat = b.toNat
      · have hab : a = b := UInt8.toNat_inj.1 h
        subst hab
        simp [h1, bytesLess_eq x y]
      · have hab : a ≠ b := fun e => h (by rw [e])
        have h3 : Nat.beq a.toNat b.toNat = false := nbeq_f h
        simp [h1, h2, hab, h3]
theorem string_append (x y : ByteArray) : (⟨(x.data.toList ++ y.data.toList).toArray⟩ : ByteArray) = x ++ y := by
  apply ByteArray.ext
  rw [ByteArray.data_append]
  apply Array.toList_inj.1
  simp
theorem stringA_run {op : BinOp} {x y : ByteArray} {v : Value} (h : stringA op x y = some v) (w : World) : (Op.stringOp op x y).run P w = .ok v w := by
  unfold Op.stringOp
  simp only [ByteArray.toList_eq]
  cases op <;> simp only [stringA, byteList, bytesBeq_eq, bytesLess_eq, Option.some.injEq, reduceCtorEq] at h
  case add =>
    split at h
    · rename_i hb
      cases h
      have hs : x.size + y.size ≤ lim := by simpa using hb
      have : ¬ (((x.size + y.size : Nat) : Int) > IntKind.i64.max) := by
        have e : IntKind.i64.max = 9223372036854775807 := by decide
        rw [e]
        unfold lim at hs
        omega
      simp only [this, if_false, string_append]
      rfl
    · cases h
  all_goals (subst h; rfl)
theorem eqGuard_run {op : BinOp} {t : Nat} {x y : Operand} {a b : Value} (h1 : ∀ c d, a = .agg c → b = .agg d → False) (h2 : a = .nilIface → b = .nilIface → False) (w : World) :
    (eqGuard op t x y a b).run P w = .ok () w := by
  unfold eqGuard
  cases op <;> simp only [Bool.not_true, Bool.not_false, Bool.false_eq_true, if_false, if_true] <;> first
    | rfl
    | (split
       · exact (h2 rfl rfl).elim
       · exact (h1 _ _ rfl rfl).elim
       · rfl)
theorem eqNil_run {t : Nat} {d : TypeDesc} {x y x' y' : Value} {b : Bool} (hu : P.underlying t = some d) (h : eqNil d x y = some b) (hx : VR E x x') (hy : VR E y y') (n : Nat) (w : World) :
    (Op.equalIn (n + 1) t x' y').run P w = .ok b w := by
  unfold eqNil at h
  split at h <;> cases h <;> cases hx <;> cases hy <;> simp [Op.equalIn, run_underlying hu]
theorem equal_eq (t : Nat) (x y : Value) : Op.equal t x y = Op.equalIn (9999 + 1) t x y := rfl
/-- the kinds of the two values that are compared -/
theorem eqNil_kinds {d : TypeDesc} {x y : Value} {b : Bool} (h : eqNil d x y = some b) :
    (∀ c c', x = .agg c → y = .agg c' → False) ∧ (x = .nilIface → y = .nilIface → False) := by
  unfold eqNil at h
  split at h <;> cases h <;> refine ⟨fun _ _ h1 h2 => ?_, fun h1 h2 => ?_⟩ <;> first | (cases h1; done) | (cases h2; done)
theorem binOp_eql {t : Nat} {d : TypeDesc} {x y x' y' : Value} {b : Bool} (h : eqNil d x y = some b) (hx : VR E x x') (hy : VR E y y') :
    binOp .eql t x' y' = (do pure (.bool (← Op.equal t x' y'))) ∧ binOp .neq t x' y' = (do pure (.bool (!(← Op.equal t x' y')))) := by
  unfold eqNil at h
  split at h <;> cases h <;> cases hx <;> cases hy <;> exact ⟨rfl, rfl⟩
theorem execOp_bare {o : Oper} {σ ρ : Operand → Value} (hs : ∀ cs b, o.op ≠ .select cs b) (h : ∀ x ∈ o.op.operands, VR E (σ x) (ρ x)) (hb : ∀ x ∈ o.op.operands, bare (σ x) = true) :
    execOp ρ o = execOp σ o := execOp_congr o hs fun x hx => bare_eq (hb x hx) (h x hx)

theorem wrapK {k : IntKind} {n : Nat} (h : n ≤ topK k) : k.wrap (n : Int) = (n : Int) := by
  cases k <;> simp only [topK] at h <;> simp [IntKind.wrap, IntKind.bits, IntKind.signed] <;> omega
theorem intK_spec {k : IntKind} {n : Nat} {v : Value} (h : intK k n = some v) : v = .int k (n : Int) ∧ k.wrap (n : Int) = (n : Int) := by
  unfold intK at h
  split at h
  · rename_i hb
    cases h
    exact ⟨rfl, wrapK (Nat.le_of_ble_eq_true hb)⟩
  · cases h
theorem kind_eq {j k : IntKind} (h : Nat.beq j.ctorIdx k.ctorIdx = true) : j = k := by
  cases j <;> cases k <;> first | rfl | (cases h)
theorem natPair_spec {x y : Value} {k : IntKind} {a b : Nat} (h : natPair x y = some (k, a, b)) : x = .int k (a : Int) ∧ y = .int k (b : Int) := by
  unfold natPair at h
  split at h <;> first | (cases h; done) | skip
  split at h <;> first | (cases h; done) | skip
  split at h <;> first | (cases h; done) | skip
  split at h <;> first | (cases h; done) | skip
  split at h <;> first | (cases h; done) | skip
  rename_i hk
  cases h
  have hk := kind_eq hk
  subst hk
  exact ⟨rfl, rfl⟩
theorem strPair_spec {x y : Value} {a b : ByteArray} (h : strPair x y = some (a, b)) : x = .string a ∧ y = .string b := by
  unfold strPair at h
  split at h <;> first | (cases h; done) | skip
  split at h <;> first | (cases h; done) | skip
  cases h
  exact ⟨rfl, rfl⟩
theorem natBin_run {op : BinOp} {k : IntKind} {a b t : Nat} {v : Value} (h : natBin op k a b = some v) : bare v = true ∧ ∀ w, (binOp op t (.int k (a : Int)) (.int k (b : Int))).run P w = .ok v w := by
  have hb : ∀ {x y : Nat}, Nat.blt x y = decide ((x : Int) < (y : Int)) := by
    intro x y
    cases hx : Nat.blt x y
    · symm
      rw [decide_eq_false_iff_not]
      intro h
      have : Nat.blt x y = true := by rw [Nat.blt_eq]; omega
      rw [hx] at this; cases this
    · symm
      rw [decide_eq_true_eq]
      rw [Nat.blt_eq] at hx
      omega
  have hl : ∀ {x y : Nat}, Nat.ble x y = decide ((x : Int) ≤ (y : Int)) := by
    intro x y
    cases hx : Nat.ble x y
    · symm
      rw [decide_eq_false_iff_not]
      intro h
      have : Nat.ble x y = true := Nat.ble_eq_true_of_le (by omega)
      rw [hx] at this; cases this
    · symm
      rw [decide_eq_true_eq]
      have := Nat.le_of_ble_eq_true hx
      omega
  have he : ∀ {x y : Nat}, Nat.beq x y = ((x : Int) == (y : Int)) := by
    intro x y
    by_cases hx : x = y
    · subst hx; rw [nbeq_t rfl]; simp
    · rw [nbeq_f hx]
      symm
      rw [beq_eq_false_iff_ne]
      omega
  unfold natBin at h
  split at h
  · obtain ⟨rfl, hw⟩ := intK_spec h
    refine ⟨rfl, fun w => ?_⟩
    have : (a : Int) + (b : Int) = ((a + b : Nat) : Int) := by omega
    simp only [binOp, Op.intArith, this, hw, ne_eq, not_true_eq_false, if_false]
    rfl
  · split at h
    · rename_i hle
      have hle := Nat.le_of_ble_eq_true hle
      obtain ⟨rfl, hw⟩ := intK_spec h
      refine ⟨rfl, fun w => ?_⟩
      have : (a : Int) - (b : Int) = ((a - b : Nat) : Int) := by omega
      simp only [binOp, Op.intArith, this, hw, ne_eq, not_true_eq_false, if_false]
      rfl
    · cases h
  · obtain ⟨rfl, hw⟩ := intK_spec h
    refine ⟨rfl, fun w => ?_⟩
    have : (a : Int) * (b : Int) = ((a * b : Nat) : Int) := by rw [Int.natCast_mul]
    simp only [binOp, Op.intArith, this, hw, ne_eq, not_true_eq_false, if_false]
    rfl
  · cases h; refine ⟨rfl, fun w => ?_⟩; simp only [binOp, Op.intCmp, ne_eq, not_true_eq_false, if_false, hb]; rfl
  · cases h; refine ⟨rfl, fun w => ?_⟩; simp only [binOp, Op.intCmp, ne_eq, not_true_eq_false, if_false, hl]; rfl
  · cases h; refine ⟨rfl, fun w => ?_⟩; simp only [binOp, Op.intCmp, ne_eq, not_true_eq_false, if_false, hb]; rfl
  · cases h; refine ⟨rfl, fun w => ?_⟩; simp only [binOp, Op.intCmp, ne_eq, not_true_eq_false, if_false, hl]; rfl
  · cases h; refine ⟨rfl, fun w => ?_⟩; simp only [binOp, Op.intCmp, ne_eq, not_true_eq_false, if_false, he]; rfl
  · cases h; refine ⟨rfl, fun w => ?_⟩; simp only [binOp, Op.intCmp, ne_eq, not_true_eq_false, if_false, he, bne]; rfl
  · cases h
theorem slow_run {o : Oper} {f : AF} {ρ : Operand → Value} {v : Value} (hs : ∀ cs b, o.op ≠ .select cs b) (hr : ∀ z ∈ o.op.operands, VR E (ev f z) (ρ z)) (hb : ∀ z ∈ o.op.operands, bare (ev f z) = true)
    (h : (match pureRun P (execOp (ev f) o) with
      | some (.value r) => match bare r with
        | true => some r
        | false => none
      | _ => none) = some v) : ∃ v', VR E v v' ∧ ∀ w, (execOp ρ o).run P w = .ok (.value v') w := by
  split at h
  · rename_i r hp
    split at h
    · rename_i hrb
      cases h
      exact ⟨v, bare_self v hrb, fun w => by rw [execOp_bare hs hr hb]; exact pureRun_run _ _ hp w⟩
    · cases h
  · cases h
theorem slowOp_run {o : Oper} {f : AF} {ρ : Operand → Value} {v : Value} (hs : ∀ cs b, o.op ≠ .select cs b) (hr : ∀ z ∈ o.op.operands, VR E (ev f z) (ρ z)) (h : slowOp P f o = some v) :
    ∃ v', VR E v v' ∧ ∀ w, (execOp ρ o).run P w = .ok (.value v') w := by
  unfold slowOp at h
  split at h
  · rename_i hb
    exact slow_run hs hr (fun x hx => Array.all_eq_true_iff_forall_mem.1 hb x hx) h
  · cases h
theorem convNat_run {src dst : Nat} {x x' v : Value} (h : convNat P src dst x = some v) (hx : VR E x x') : bare v = true ∧ ∀ w, (convert src dst x').run P w = .ok v w := by
  unfold convNat at h
  split at h <;> first | (cases h; done) | skip
  split at h <;> first | (cases h; done) | skip
  split at h <;> first | (cases h; done) | skip
  rename_i k0 _ a _ _ d k hs hd
  obtain ⟨rfl, hw⟩ := intK_spec h
  obtain rfl := int_inv hx
  refine ⟨rfl, fun w => ?_⟩
  simp only [convert, Sem.run_bind, run_underlying hs, run_underlying hd, Result.andThen_ok]
  show (Conv.intToInt k (Int.ofNat a)).run P w = _
  simp only [Conv.intToInt]
  rw [show (Int.ofNat a) = (a : Int) from rfl, hw]
  rfl
theorem zeroT_zero {t : Nat} {z : Value} (h : zeroT P t = some z) : (∀ w, (zeroValue t).run P w = .ok z w) ∧ bare z = true := by
  unfold zeroT at h
  split at h
  · rename_i i hi
    split at h
    · rename_i z0 hz
      split at h
      · rename_i hb
        split at h
        · cases h
          exact ⟨fun w => by simp [zeroValue, typeInfo, hi, hz], hb⟩
        · cases h
      · cases h
    · cases h
  · cases h
theorem held_rel {x x' : Value} (hx : VR E x x') (ok : Bool) : VR E (match ok with | true => .tuple #[x, .bool true] | false => x) (if ok then .tuple #[x', .bool true] else x') := by
  cases ok
  · exact hx
  · exact VR.tuple' (c := #[x, .bool true]) (c' := #[x', .bool true]) ⟨hx, .bool true, trivial⟩
theorem assertA_run {x x' v : Value} {xt asserted : Nat} {ok : Bool} (h : assertA P x asserted ok = some v) (hx : VR E x x') : ∃ v', VR E v v' ∧ ∀ w, (Instr.typeAssert x' xt asserted ok).run P w = .ok v' w := by
  unfold assertA at h
  split at h
  · rename_i t v0
    obtain ⟨v0', rfl, hv⟩ : ∃ v0', x' = .iface t v0' ∧ VR E v0 v0' := by cases hx with | iface t v v' h => exact ⟨_, rfl, h⟩
    split at h
    · rename_i want hu
      split at h
      · rename_i i hi
        split at h
        · rename_i hm
          cases h
          refine ⟨_, held_rel hx ok, fun w => ?_⟩
          simp [Instr.typeAssert, run_underlying hu, typeInfo, hi, hm]
        · cases h
      · cases h
    · rename_i d hn hu
      have hd : ∀ w, (underlying asserted).run P w = .ok d w := run_underlying hu
      split at h
      · rename_i ht
        have ht := Nat.eq_of_beq_eq_true ht
        subst ht
        cases h
        refine ⟨_, held_rel hv ok, fun w => ?_⟩
        cases d <;> first | exact (hn _ rfl).elim | simp [Instr.typeAssert, hd]
      · rename_i ht
        have ht : t ≠ asserted := fun e => by rw [nbeq_t e] at ht; cases ht
        split at h
        · split at h
          · rename_i z hz
            cases h
            obtain ⟨hzr, hzb⟩ := zeroT_zero hz
            refine ⟨.tuple #[z, .bool false], VR.tuple' (c := #[z, .bool false]) (c' := #[z, .bool false]) ⟨bare_self z hzb, .bool false, trivial⟩, fun w => ?_⟩
            cases d <;> first | exact (hn _ rfl).elim | simp [Instr.typeAssert, hd, ht, hzr]
          · cases h
        · cases h
    · cases h
  · cases h
theorem methodF_run {t f : Nat} {name : String} (h : methodF P t name = some f) (v : Value) (n : Nat) (w : World) : (method (n + 1) t v name).run P w = .ok (f, v) w := by
  unfold methodF at h
  split at h
  · rename_i i hi
    split at h
    · rename_i m hm
      have hm' : i.methods.find? (fun x => x.name == name) = some m := by rw [← Array.find?_toList]; exact hm
      split at h
      · rename_i g e hp hf hu
        cases h
        simp [method, typeInfo, hi, hm', hp, hf, follow, receiverAt, run_underlying hu, Place.get]
      · cases h
      · rename_i g d hn hp hf hu
        cases h
        have hd : ∀ w, (underlying t).run P w = .ok d w := run_underlying hu
        cases d <;> first | exact (hn _ rfl).elim | simp [method, typeInfo, hi, hm', hp, hf, follow, receiverAt, hd, Place.get]
      · cases h
    · cases h
  · cases h
theorem samePtr_spec {d : TypeDesc} {u v : Value} (h : samePtr P d u v = true) :
    ∃ te b o j, d = .pointer te ∧ u = .pointer (some ⟨b, o, none⟩) ∧ v = .pointer (some ⟨b, o, none⟩) ∧ P.info? te = some j := by
  unfold samePtr at h
  split at h
  · rename_i te a o b p
    split at h
    · rename_i j hj
      rw [Bool.and_eq_true] at h
      obtain rfl : a = b := Nat.eq_of_beq_eq_true h.1
      obtain rfl : o = p := Nat.eq_of_beq_eq_true h.2
      exact ⟨te, a, o, j, rfl, rfl, rfl, hj⟩
    · cases h
  · cases h
theorem binSlow_run {o : Oper} {op : BinOp} {t yt : Nat} {f : AF} {x y : Operand} {ρ : Operand → Value} {v : Value} (ho : o.op = .binOp op t x y yt) (h : binSlow P o op t f (ev f x) (ev f y) = some v)
    (hr : ∀ z ∈ o.op.operands, VR E (ev f z) (ρ z)) : ∃ v', VR E v v' ∧ ∀ w, (execOp ρ o).run P w = .ok (.value v') w := by
  have hx : VR E (ev f x) (ρ x) := hr x (by simp [ho, Op.operands])
  have hy : VR E (ev f y) (ρ y) := hr y (by simp [ho, Op.operands])
  unfold binSlow at h
  split at h
  · rename_i hb
    simp only [Bool.and_eq_true] at hb
    refine slow_run (by simp [ho]) hr ?_ h
    intro z hz
    simp only [ho, Op.operands, List.mem_toArray, List.mem_cons, List.not_mem_nil, or_false] at hz
    rcases hz with rfl | rfl
    · exact hb.1
    · exact hb.2
  · split at h
    · rename_i d hu
      split at h
      · rename_i hs
        obtain ⟨te, b, o1, j, rfl, e1, e2, hj⟩ := samePtr_spec hs
        rw [e1] at hx
        rw [e2] at hy
        obtain ⟨e, he, q1⟩ := ptr_inv hx
        obtain ⟨e', he', q2⟩ := ptr_inv hy
        rw [he] at he'
        cases he'
        split at h
        · cases h
          refine ⟨_, .bool false, fun w => ?_⟩
          have hg := eqGuard_run (P := P) (op := .neq) (t := t) (x := x) (y := y) (a := ρ x) (b := ρ y) (fun c d h1 _ => by rw [q1] at h1; cases h1) (fun h1 _ => by rw [q1] at h1; cases h1) w
          rw [q1, q2] at hg
          have hb := Lib.run_neq_ptr_same (P := P) w ⟨e.blk, o1, none⟩ hu hj
          simp [execOp, ho, q1, q2, hg, hb]
        · cases h
      have run : ∀ b, eqNil d (ev f x) (ev f y) = some b → (∀ w, (Op.equal t (ρ x) (ρ y)).run P w = .ok b w) ∧ ∀ op w, (eqGuard op t x y (ρ x) (ρ y)).run P w = .ok () w := by
        intro b hb
        refine ⟨fun w => by rw [equal_eq]; exact eqNil_run hu hb hx hy 9999 w, fun op w => ?_⟩
        obtain ⟨k1, k2⟩ := eqNil_kinds hb
        refine eqGuard_run (fun c c' h1 h2 => ?_) (fun h1 h2 => ?_) w
        · rw [h1] at hx; rw [h2] at hy
          generalize ev f x = u at hx k1
          generalize ev f y = u' at hy k1
          cases hx; cases hy
          exact k1 _ _ rfl rfl
        · rw [h1] at hx; rw [h2] at hy
          generalize ev f x = u at hx k2
          generalize ev f y = u' at hy k2
          cases hx; cases hy
          exact k2 rfl rfl
      split at h
      · rename_i b hb
        cases h
        obtain ⟨r1, r2⟩ := run b hb
        refine ⟨_, .bool b, fun w => ?_⟩
        simp [execOp, ho, r2, (binOp_eql hb hx hy).1, r1]
      · rename_i b hb
        cases h
        obtain ⟨r1, r2⟩ := run b hb
        refine ⟨_, .bool (!b), fun w => ?_⟩
        simp [execOp, ho, r2, (binOp_eql hb hx hy).2, r1]
      · cases h
    · cases h
theorem binA_run {o : Oper} {op : BinOp} {t yt : Nat} {f : AF} {x y : Operand} {ρ : Operand → Value} {v : Value} (ho : o.op = .binOp op t x y yt) (h : binA P o op t f x y = some v)
    (hr : ∀ z ∈ o.op.operands, VR E (ev f z) (ρ z)) : ∃ v', VR E v v' ∧ ∀ w, (execOp ρ o).run P w = .ok (.value v') w := by
  have hx : VR E (ev f x) (ρ x) := hr x (by simp [ho, Op.operands])
  have hy : VR E (ev f y) (ρ y) := hr y (by simp [ho, Op.operands])
  unfold binA at h
  split at h
  · rename_i k a b hp
    split at h
    · rename_i v1 hv
      cases h
      obtain ⟨e1, e2⟩ := natPair_spec hp
      rw [e1] at hx
      rw [e2] at hy
      have e1 := int_inv hx
      have e2 := int_inv hy
      obtain ⟨hb, hrun⟩ := natBin_run (P := P) (t := t) hv
      refine ⟨v, bare_self v hb, fun w => ?_⟩
      simp only [execOp, ho, e1, e2, Sem.run_bind, eqGuard_run (P := P) (op := op) (t := t) (x := x) (y := y) (a := .int k (a : Int)) (b := .int k (b : Int)) (by simp) (by simp) w, Result.andThen_ok, hrun, Sem.run_pure]
    · exact binSlow_run ho h hr
  · split at h
    · rename_i a b hp
      obtain ⟨hu, hv⟩ := strPair_spec hp
      rw [hu] at hx
      rw [hv] at hy
      have e1 := string_inv hx
      have e2 := string_inv hy
      have hst := fun w => stringA_run (P := P) h w
      have hv : VR E v v := by
        unfold stringA at h
        split at h
        · split at h
          · cases h; exact .string _
          · cases h
        all_goals first | (cases h; exact .bool _) | cases h
      refine ⟨v, hv, fun w => ?_⟩
      have hb : ∀ op, binOp op t (.string a) (.string b) = Op.stringOp op a b := fun op => by cases op <;> rfl
      simp only [execOp, ho, e1, e2, Sem.run_bind, eqGuard_run (P := P) (op := op) (t := t) (x := x) (y := y) (a := .string a) (b := .string b) (by simp) (by simp) w, Result.andThen_ok, hb, hst, Sem.run_pure]
    · exact binSlow_run ho h hr

theorem string_inv' {s : ByteArray} {v : Value} (h : VR E (.string s) v) : v = .string s := by cases h; rfl
/-- an operation that does not look at the heap yields, in every world, a value for which the machine's stands -/
theorem heapless_run {o : Oper} {f : AF} {ρ : Operand → Value} {v : Value} (h : heapless P f o = some v) (hr : ∀ z ∈ o.op.operands, VR E (ev f z) (ρ z)) :
    ∃ v', VR E v v' ∧ ∀ w, (execOp ρ o).run P w = .ok (.value v') w := by
  obtain ⟨dst, op, type, pos, after, guard⟩ := o
  unfold heapless at h
  simp only at h
  split at h
  · rename_i x; cases h; exact ⟨_, hr x (by simp [Op.operands]), fun w => rfl⟩
  · rename_i x; cases h; exact ⟨_, hr x (by simp [Op.operands]), fun w => rfl⟩
  · rename_i c a b
    have hc := hr c (by simp [Op.operands])
    have ha := hr a (by simp [Op.operands])
    have hb := hr b (by simp [Op.operands])
    split at h <;> cases h
    · rename_i e; rw [e] at hc; exact ⟨_, ha, fun w => by simp [execOp, bool_inv hc, asBool]⟩
    · rename_i e; rw [e] at hc; exact ⟨_, hb, fun w => by simp [execOp, bool_inv hc, asBool]⟩
  · rename_i x
    have hx := hr x (by simp [Op.operands])
    split at h <;> cases h
    · rename_i a e
      rw [e] at hx
      generalize hq : ρ x = q at hx
      cases hx with
      | ptr b o e' he => exact ⟨_, .ptr b o e' he, fun w => by simp [execOp, hq]⟩
    · rename_i g a c e
      rw [e] at hx
      obtain ⟨a', c', e', h1, h2⟩ := hx.func_inv
      exact ⟨_, VR.func' h1 h2, fun w => by simp [execOp, e']⟩
    · rename_i r e
      rw [e] at hx
      generalize hq : ρ x = q at hx
      cases hx with
      | map0 => exact ⟨_, .map0, fun w => by simp [execOp, hq]⟩
      | map r e' he => exact ⟨_, .map r e' he, fun w => by simp [execOp, hq]⟩
  · rename_i x i
    have hx := hr x (by simp [Op.operands])
    split at h
    · rename_i vs e
      rw [e] at hx
      obtain ⟨vs', e', h1⟩ := hx.tuple_inv
      obtain ⟨v', h2, h3⟩ := lr_get h1 h
      exact ⟨v', h3, fun w => by simp [execOp, e', Instr.extract, h2]⟩
    · cases h
  · rename_i t x i
    obtain ⟨v', h1, h2⟩ := fieldA_run h (hr x (by simp [Op.operands]))
    exact ⟨v', h1, fun w => by simp [execOp, h2]⟩
  · rename_i t parts
    have hp : PL E (parts.toList.map fun p => (p.1, ev f p.2)).toArray.toList (parts.map fun (i, x) => (i, ρ x)).toList := by
      simp only [Array.toList_map]
      exact pl_map parts.toList fun p hp => hr p.2 (by simp only [Op.operands, List.mem_toArray, List.mem_map]; exact ⟨p, hp, rfl⟩)
    obtain ⟨v', h1, h2⟩ := buildA_run (buildF_old h) hp
    exact ⟨v', h1, fun w => by simp only [execOp, Sem.run_bind, h2]; rfl⟩
  · rename_i t x
    have hx := hr x (by simp [Op.operands])
    split at h
    · cases h
    · cases h
    · rename_i d hn hu
      cases h
      refine ⟨_, .iface t _ _ hx, fun w => ?_⟩
      simp only [execOp, Instr.makeInterface, Sem.run_bind, run_underlying hu, Result.andThen_ok]
      cases d <;> first | rfl | exact absurd hu (hn _)
  · rename_i fn first captured
    cases h
    refine ⟨_, VR.func' (f' := first.map ρ) (c' := captured.map ρ) ?_ ?_, fun w => rfl⟩
    · simp only [Array.toList_map]
      exact lr_map _ fun p hp => hr p (by simp [Op.operands, Array.mem_toList_iff.1 hp])
    · simp only [Array.toList_map]
      exact lr_map _ fun p hp => hr p (by simp [Op.operands, Array.mem_toList_iff.1 hp])
  · rename_i t x i
    obtain ⟨v', h1, h2⟩ := fieldAddrA_run h (hr x (by simp [Op.operands]))
    exact ⟨v', h1, fun w => by simp [execOp, h2]⟩
  · rename_i t x i
    obtain ⟨v', h1, h2⟩ := indexAddrA_run h (hr x (by simp [Op.operands])) (hr i (by simp [Op.operands]))
    exact ⟨v', h1, fun w => by simp [execOp, h2]⟩
  · rename_i bop t x y yt
    exact binA_run rfl h hr
  · rename_i t x lo hi mx
    have hx := hr x (by simp [Op.operands])
    split at h
    · rename_i s e hu
      rw [e] at hx
      have hlo : OV E (lo.map (ev f)) (lo.map ρ) := by
        cases lo with
        | none => trivial
        | some z => exact hr z (by simp [Op.operands])
      have hhi : OV E (hi.map (ev f)) (hi.map ρ) := by
        cases hi with
        | none => trivial
        | some z => exact hr z (by simp [Op.operands])
      split at h
      · rename_i hh h1
        split at h
        · rename_i l h2
          cases h
          exact ⟨_, .string _, fun w => by
            rw [takeN_eq, dropN_eq]
            simp only [execOp, string_inv hx, Option.map_none, Sem.run_bind, slice_string_run hu h1 h2 hlo hhi w]; rfl⟩
        · cases h
      · cases h
    · cases h
  · rename_i t x i
    have hx := hr x (by simp [Op.operands])
    have hi := hr i (by simp [Op.operands])
    split at h
    · rename_i s k j e1 e2 hu
      rw [e1] at hx
      rw [e2] at hi
      split at h
      · rename_i j' hj
        obtain ⟨rfl, hlt⟩ := inRange_spec hj
        split at h
        · rename_i b hb
          rw [nth_eq] at hb
          cases h
          exact ⟨_, .int _ _, fun w => by simp only [execOp, string_inv hx, int_inv hi, Sem.run_bind, index_string_run hu hlt hb w]; rfl⟩
        · cases h
      · cases h
    · obtain ⟨v', h1, h2⟩ := indexA_run h hx hi
      exact ⟨v', h1, fun w => by simp [execOp, h2]⟩
  · rename_i args ts
    have hargs : LR E (args.toList.map (ev f)) (args.toList.map ρ) := lr_map _ fun p hp => hr p (by simp [Op.operands, Call.operands, Array.mem_toList_iff.1 hp])
    split at h
    · rename_i a n c t ea et
      rw [ea] at hargs
      split at h
      · rename_i el hu
        cases h
        refine ⟨_, .int _ _, fun w => ?_⟩
        generalize hq : args.toList.map ρ = q at hargs
        match q, hargs with
        | [y], ⟨hy, _⟩ =>
          have ha : args.map ρ = #[y] := by apply Array.toList_inj.1; rw [Array.toList_map, hq]
          have ht : ts = #[t] := by apply Array.toList_inj.1; rw [et]
          have hf : ∃ b c, y = .slice b n c := by cases hy with
            | slice0 => exact ⟨_, _, rfl⟩
            | slice => exact ⟨_, _, rfl⟩
            | slice00 => exact ⟨_, _, rfl⟩
          obtain ⟨b', c', rfl⟩ := hf
          simp [execOp, resolve, ha, ht, invoke, builtin, Builtin.len_, run_underlying hu, goInt]
      · cases h
    · rename_i s t ea et
      rw [ea] at hargs
      split at h
      · rename_i hu
        cases h
        refine ⟨_, .int _ _, fun w => ?_⟩
        generalize hq : args.toList.map ρ = q at hargs
        match q, hargs with
        | [y], ⟨hy, _⟩ =>
          have ha : args.map ρ = #[y] := by apply Array.toList_inj.1; rw [Array.toList_map, hq]
          have ht : ts = #[t] := by apply Array.toList_inj.1; rw [et]
          obtain rfl := string_inv hy
          simp [execOp, resolve, ha, ht, invoke, builtin, Builtin.len_, run_underlying hu, goInt]
      · cases h
    · cases h
  · rename_i args ts
    have hargs : LR E (args.toList.map (ev f)) (args.toList.map ρ) := lr_map _ fun p hp => hr p (by simp [Op.operands, Call.operands, Array.mem_toList_iff.1 hp])
    split at h
    · rename_i a n c t ea et
      rw [ea] at hargs
      split at h
      · rename_i el hu hc
        cases h
        refine ⟨_, .int _ _, fun w => ?_⟩
        generalize hq : args.toList.map ρ = q at hargs
        match q, hargs with
        | [y], ⟨hy, _⟩ =>
          have ha : args.map ρ = #[y] := by apply Array.toList_inj.1; rw [Array.toList_map, hq]
          have ht : ts = #[t] := by apply Array.toList_inj.1; rw [et]
          have hne : c ≠ unk := fun e => by rw [nbeq_t e] at hc; cases hc
          have hf : ∃ b, y = .slice b n c := by cases hy with
            | slice0 => exact ⟨_, rfl⟩
            | slice b o l c c' e he h1 h2 h3 h4 =>
              rcases h1 with rfl | h1
              · exact ⟨_, rfl⟩
              · exact absurd h1.1 hne
            | slice00 => exact absurd rfl hne
          obtain ⟨b', rfl⟩ := hf
          simp [execOp, resolve, ha, ht, invoke, builtin, Builtin.cap_, run_underlying hu, goInt]
      · cases h
    · cases h
  · rename_i src dst x
    split at h
    · rename_i v1 hv
      cases h
      obtain ⟨hb, hrun⟩ := convNat_run (P := P) hv (hr x (by simp [Op.operands]))
      exact ⟨v, bare_self v hb, fun w => by simp only [execOp, Sem.run_bind, hrun]; rfl⟩
    · exact slowOp_run (by simp) hr h
  · rename_i x xt asserted ok
    split at h
    · rename_i v1 hv
      cases h
      obtain ⟨v', h1, h2⟩ := assertA_run (P := P) (xt := xt) hv (hr x (by simp [Op.operands]))
      exact ⟨v', h1, fun w => by simp only [execOp, Sem.run_bind, h2]; rfl⟩
    · exact slowOp_run (by simp) hr h
  · rename_i args ts
    have hargs : LR E (args.toList.map (ev f)) (args.toList.map ρ) := lr_map _ fun p hp => hr p (by simp [Op.operands, Call.operands, Array.mem_toList_iff.1 hp])
    split at h
    · rename_i b o1 n c ea
      rw [ea] at hargs
      cases h
      generalize hq : args.toList.map ρ = q at hargs
      match q, hargs with
      | [y], ⟨hy, _⟩ =>
        have ha : args.map ρ = #[y] := by apply Array.toList_inj.1; rw [Array.toList_map, hq]
        obtain ⟨e, c', he, rfl, _, hle, _⟩ := slice_inv hy
        refine ⟨_, VR.ptr b o1 e he, fun w => ?_⟩
        have hc : c' ≠ 0 := by omega
        have hrun := Lib.run_unsafeSliceData_row (P := P) w ts type ⟨e.blk, o1, none⟩ (n + 1) c' hc
        simp only [Nat.succ_eq_add_one] at *
        simp [execOp, resolve, ha, invoke, builtin, hrun]
    · exact slowOp_run (by simp) hr h
  · exact slowOp_run (by simp) hr h
  · exact slowOp_run (by simp) hr h
  · exact slowOp_run (by simp) hr h
  · exact slowOp_run (by simp) hr h
  · cases h
end
end Go.Proofs.YtkekpiillbpciaaGreatDoor.Cx
