/- A machine that runs a program's code on written inputs by computation alone, part 9: append and copy. No condition. -/
import Derived.Test.YtcnclcfglfgjlaaGreatDoorCxMem2
namespace Go.Proofs.YtcnclcfglfgjlaaGreatDoor.Cx
open Go

/-- a name is given up -/
theorem Tx.drop {E : Em} {h : Hp} {w : World} {n b : Nat} (H : HR E h w) : Tx E h w n E (upd h b none) w n [b] := by
  have hsub : ∀ c o, upd h b none c = some o → h c = some o := by
    intro c o hc
    unfold upd at hc
    split at hc
    · cases hc
    · exact hc
  refine ⟨Nat.le_refl n, .refl E, fun _ _ h => .inl h, H.sub hsub, ?_, fun c o hc => .inl ⟨o, hsub c o hc⟩, fun _ _ _ h1 h2 => absurd (Nat.lt_of_le_of_lt h1 h2) (Nat.lt_irrefl _), fun _ _ _ => rfl, Nat.le_refl _, rfl, rfl, rfl⟩
  intro c _ hc
  unfold upd
  rw [if_neg (by simpa using hc)]

section
variable {P : Program} {E : Em} {w : World}
theorem lenA_run {y y' : Value} {n : Nat} (h : lenA y = some n) (hy : VR E y y') (w : World) : (Builtin.lenOf y').run P w = .ok n w := by
  unfold lenA at h
  split at h
  · cases h
    cases hy <;> rfl
  · cases h
    obtain rfl := string_inv hy
    rfl
  · cases h
theorem sourceA_run {s : HS} {z n : Nat} {y y' : Value} {new : List Value} (h : sourceA s z n y = some new) (H : HR E s.at w) (hy : VR E y y') :
    new.length = n * z ∨ (∃ t, y' = .string t) ∧ z = 1 := by
  unfold sourceA at h
  split at h
  · split at h
    · cases h; simp
    · cases h
  · split at h
    · left
      obtain ⟨e, cur, fz, _, _, _, _, _, _, hl⟩ := H.row ‹_›
      obtain ⟨ys, h1, h2, _⟩ := cellsA_rel h hl
      rw [h2.length, h1]
    · cases h
  · split at h
    · rename_i hb
      right
      exact ⟨⟨_, string_inv hy⟩, beq_eq hb⟩
    · cases h
  · cases h
theorem sourceA_cells {s : HS} {z n : Nat} {y y' : Value} {new : List Value} (h : sourceA s z n y = some new) (H : HR E s.at w) (hy : VR E y y') :
    ∃ new', LR E new new' ∧ ∀ w' : World, w'.heap = w.heap → (Builtin.firstCells z n y').run P w' = .ok new'.toArray w' := by
  unfold sourceA at h
  split at h
  · obtain rfl := slice0_inv hy
    split at h
    · cases h; exact ⟨[], trivial, fun w' _ => by simp [Builtin.firstCells]⟩
    · cases h
  · rename_i b o l c
    split at h
    · rename_i cs t1 z1 hb
      obtain ⟨e, cur, fz, he, _, hc, _, _, _, hl⟩ := H.row hb
      obtain ⟨e', c', he', rfl, _⟩ := slice_inv hy
      rw [he] at he'; cases he'
      obtain ⟨ys, h1, h2, h3⟩ := cellsA_rel h hl
      refine ⟨ys, h2, fun w' hw => ?_⟩
      have := load_cells (P := P) (w := w') (b := e.blk) (o := o) (n := n * z) (by rw [hw]; exact hc) h1 h3
      simp [Builtin.firstCells, this]
    · cases h
  · rename_i t
    split at h
    · cases h
      obtain rfl := string_inv hy
      refine ⟨_, bare0_all_self ?_, fun w' _ => ?_⟩
      · rw [List.all_eq_true]
        intro x hx
        obtain ⟨b, _, rfl⟩ := List.mem_map.1 hx
        rfl
      · simp only [Builtin.firstCells, Sem.run_pure]
        congr 1
        apply Array.toList_inj.1
        simp [string_extract]
    · cases h
  · cases h
theorem notInt_spec {d : TypeDesc} (h : notInt d = true) : d = .string ∨ ∃ e, d = .slice e := by
  cases d <;> first | exact .inl rfl | exact .inr ⟨_, rfl⟩ | cases h
theorem append_room {t u ty e n l c' z : Nat} {ud : TypeDesc} {i : TypeInfo} {base : Option Addr} {y' : Value} {news : Array Value} (ht : P.underlying t = some (.slice e)) (hu : P.underlying u = some ud) (hn : notInt ud = true)
    (hi : P.info? e = some i) (hz : i.size = z) (hlen : (Builtin.lenOf y').run P w = .ok n w) (hfc : (Builtin.firstCells z n y').run P w = .ok news w) (hroom : l + n ≤ c') :
    (Builtin.append_ #[t, u] ty #[.slice base l c', y']).run P w = match base with
      | some a => ((storeCells (a.add (l * z)) news.toList).run P w).andThen fun _ w' => .ok (.slice (some a) (l + n) c') w'
      | none => .ok (.slice none (l + n) c') w := by
  subst hz
  rcases notInt_spec hn with rfl | ⟨_, rfl⟩ <;> cases base <;> simp [Builtin.append_, run_underlying ht, run_underlying hu, sizeOf, typeInfo, hi, hlen, hfc, hroom]
theorem append_grow {t u ty e n l c' z : Nat} {ud : TypeDesc} {i : TypeInfo} {zv : Value} {base : Option Addr} {y' : Value} {olds news : Array Value} (ht : P.underlying t = some (.slice e)) (hu : P.underlying u = some ud) (hn : notInt ud = true)
    (hi : P.info? e = some i) (hz : i.size = z) (hzv : i.zero = some zv) (hby : i.bytes ≤ 100000) (hlen : (Builtin.lenOf y').run P w = .ok n w)
    (hfc : ∀ w' : World, w'.heap = w.heap → (Builtin.firstCells z n y').run P w' = .ok news w') (hold : ∀ w' : World, w'.heap = w.heap → (Builtin.firstCells z l (.slice base l c')).run P w' = .ok olds w')
    (hgrow : ¬ l + n ≤ c') (hsmall : l + n ≤ 200000) :
    (Builtin.append_ #[t, u] ty #[.slice base l c', y']).run P w = .ok (.slice (some ⟨w.heap.size, 0, none⟩) (l + n) (grownCap w (l + n) c' e))
      { w with drawn := w.drawn + 1, heap := w.heap.push (.cells (olds ++ news ++ Builtin.zeroCells zv.cells (grownCap w (l + n) c' e - (l + n))) e) } := by
  subst hz
  have h1 : ¬ (((l + n : Nat) : Int) > IntKind.i64.max ∧ (False ∨ i.bytes = 0)) := by
    have e : IntKind.i64.max = 9223372036854775807 := by decide
    rw [e]; omega
  have h2 : ¬ (Builtin.nextslicecap (l + n) c' * i.bytes > 2 ^ 48) := by
    have := growslice_fits (need := l + n) (old := c') (bytes := i.bytes) (by omega) (by
      have : (l + n) * i.bytes ≤ 200000 * 100000 := Nat.mul_le_mul hsmall hby
      omega)
    omega
  have hti : ∀ w, (typeInfo e).run P w = .ok i w := fun w => by simp [typeInfo, hi]
  have hso : ∀ w, (sizeOf e).run P w = .ok i.size w := fun w => by simp [sizeOf, hti]
  have hzr : ∀ w, (zeroValue e).run P w = .ok zv w := fun w => by simp [zeroValue, hti, hzv]
  have hch : ∀ w : World, (choose (.appendCap (l + n) c' e)).run P w = .ok (grownCap w (l + n) c' e) { w with drawn := w.drawn + 1 } := fun w => rfl
  have hold' := hold { w with drawn := w.drawn + 1 } rfl
  have hfc' := hfc { w with drawn := w.drawn + 1 } rfl
  rcases notInt_spec hn with rfl | ⟨_, rfl⟩ <;> simp only [Builtin.append_, List.getElem?_toArray, List.getElem?_cons_zero, List.getElem?_cons_succ, Sem.run_bind, run_underlying ht, run_underlying hu, Result.andThen_ok, hso, Sem.run_pure, Bool.false_eq_true, if_false, hlen, hgrow, h1, hti, h2, hch, run_askRoom,
    hold', Bool.not_false, if_true, hfc', hzr, run_newRow]
end
end Go.Proofs.YtcnclcfglfgjlaaGreatDoor.Cx
