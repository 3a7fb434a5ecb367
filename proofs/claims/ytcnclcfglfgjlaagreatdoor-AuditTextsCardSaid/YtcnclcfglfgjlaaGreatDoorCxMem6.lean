/- A machine that runs a program's code on written inputs by computation alone, part 12: maps. No condition. -/
import Derived.Test.YtcnclcfglfgjlaaGreatDoorCxMem5
import Derived.MapKept
namespace Go.Proofs.YtcnclcfglfgjlaaGreatDoor.Cx
open Go

section
variable {P : Program} {E : Em} {w : World}
theorem map_inv {r : Nat} {v : Value} (h : VR E (.map (some r)) v) : ∃ e, E r = some e ∧ v = .map (some e.blk) := by
  cases h with
  | map r e he => exact ⟨e, he, rfl⟩
theorem map0_inv {v : Value} (h : VR E (.map none) v) : v = .map none := by cases h; rfl
theorem HR.mapAt {h : Hp} (H : HR E h w) {b c : Nat} {es : List MapEntry} (hb : h b = some (.map es c)) :
    ∃ e es', E b = some e ∧ w.heap[e.blk]? = some (.map es' c) ∧ ELR E es es'.toList := by
  obtain ⟨e, he, es', h1, h2⟩ := H.here b _ hb
  exact ⟨e, es', he, h1, h2⟩
theorem elr_empty {es : List MapEntry} {es' : Array MapEntry} (h : ELR E es es'.toList) : es.isEmpty = es'.isEmpty := by
  have hl := h.length
  cases es with
  | nil =>
    have : es' = #[] := Array.eq_empty_of_size_eq_zero (by simpa using hl.symm)
    rw [this]; rfl
  | cons a es =>
    have hn : es'.size ≠ 0 := by simp at hl; omega
    cases hb : es'.isEmpty
    · rfl
    · rw [Array.isEmpty_iff] at hb; rw [hb] at hn; simp at hn
theorem checkKey_under {e : Bool} {n kt : Nat} {k : Value} {u : Unit} (h : pureRun P (Instr.checkKey e (n + 1) kt k) = some u) : ∃ d, P.underlying kt = some d := by
  cases hd : P.underlying kt with
  | some d => exact ⟨d, rfl⟩
  | none =>
    have := pureRun_run _ _ h (default : World)
    simp [Instr.checkKey, underlying, hd] at this
theorem ok_rel (ok : Bool) {v v' : Value} (b : Bool) (hv : VR E v v') : VR E (match ok with | true => .tuple #[v, .bool b] | false => v) (if ok then .tuple #[v', .bool b] else v') := by
  cases ok
  · exact hv
  · exact VR.tuple' (c := #[v, .bool b]) (c' := #[v', .bool b]) ⟨hv, .bool b, trivial⟩
theorem lookupA_run {s : HS} {t : Nat} {m m' k k' r : Value} {ok : Bool} (h : lookupA P s t m k ok = some r) (H : HR E s.at w) (hm : VR E m m') (hk : VR E k k') :
    ∃ r', VR E r r' ∧ (Instr.lookup t m' k' ok).run P w = .ok r' w := by
  unfold lookupA at h
  split at h
  · rename_i kt et hu hb
    obtain rfl := bare_eq hb hk
    split at h
    · rename_i rr z hz
      obtain ⟨hzr, hzb, _⟩ := zeroT_run hz
      split at h
      · rename_i es hes
        have main : ∃ es' : Array MapEntry, ELR E es es'.toList ∧ ((m' = .map none ∧ es' = #[]) ∨ ∃ b c, m' = .map (some b) ∧ w.heap[b]? = some (.map es' c)) := by
          cases rr with
          | none =>
            simp only [Option.some.injEq] at hes
            subst hes
            exact ⟨#[], trivial, .inl ⟨map0_inv hm, rfl⟩⟩
          | some b =>
            simp only at hes
            split at hes
            · rename_i es1 c hrow
              cases hes
              obtain ⟨e, es', he, h1, h2⟩ := H.mapAt hrow
              obtain ⟨e', he', rfl⟩ := map_inv hm
              rw [he] at he'; cases he'
              exact ⟨es', h2, .inr ⟨_, c, rfl, h1⟩⟩
            · cases hes
        obtain ⟨es', hE, hm'⟩ := main
        have fin : ∀ (v : Value) (b : Bool), (do Instr.checkKey es'.isEmpty 10000 kt k'
                                                 let (v, ok') ← match ← Instr.findKey kt k' es'.toList with
                                                   | some (_, v) => pure (v, true)
                                                   | none => pure (← zeroValue et, false)
                                                 pure (if ok then .tuple #[v, .bool ok'] else v) : Sem Value).run P w = .ok (if ok then .tuple #[v, .bool b] else v) w →
            (Instr.lookup t m' k' ok).run P w = .ok (if ok then .tuple #[v, .bool b] else v) w := by
          intro v b hv
          rw [← hv]
          rcases hm' with ⟨rfl, rfl⟩ | ⟨b, c, rfl, hb⟩
          · simp only [Instr.lookup, Sem.run_bind, run_underlying hu, Result.andThen_ok, Sem.run_pure]; rfl
          · simp only [Instr.lookup, Sem.run_bind, run_underlying hu, Result.andThen_ok, Sem.run_pure, MapKept.run_getObj_map hb]; rfl
        split at h
        · rename_i u i v hc hf
          cases h
          obtain ⟨d, hd⟩ := checkKey_under (n := 9999) hc
          obtain ⟨r', q1, q2⟩ := findKey_run hd hE hf
          have hc' := pureRun_run _ _ hc w
          rw [elr_empty hE] at hc'
          cases r' with
          | none => exact q1.elim
          | some r' =>
            obtain ⟨j, v'⟩ := r'
            exact ⟨_, ok_rel ok true q1.2, fin v' true (by simp [hc', q2])⟩
        · rename_i u hc hf
          cases h
          obtain ⟨d, hd⟩ := checkKey_under (n := 9999) hc
          obtain ⟨r', q1, q2⟩ := findKey_run hd hE hf
          have hc' := pureRun_run _ _ hc w
          rw [elr_empty hE] at hc'
          cases r' with
          | none => exact ⟨_, ok_rel ok false (bare_self z hzb), fin z false (by simp [hc', q2, hzr])⟩
          | some r' => exact q1.elim
        · cases h
      · cases h
    · cases h
  · cases h
theorem mapUpdateA_run {s s' : HS} {t : Nat} {m m' k k' v v' : Value} (h : mapUpdateA P s t m k v = some s') (H : HR E s.at w) (hm : VR E m m') (hk : VR E k k') (hv : VR E v v') :
    s'.next = s.next ∧ ∃ b, s'.log = b :: s.log ∧ ∃ w', (Instr.mapUpdate t m' k' v').run P w = .ok () w' ∧ Tx E s.at w s.next E s'.at w' s.next [b] := by
  unfold mapUpdateA at h
  simp only [forceS_eq, forceN_eq] at h
  split at h
  · rename_i kt et r hu hb
    obtain rfl := bare_eq hb hk
    split at h
    · rename_i es c hrow
      obtain ⟨e, es', he, h1, hE⟩ := H.mapAt hrow
      obtain ⟨e', he', rfl⟩ := map_inv hm
      rw [he] at he'; cases he'
      split at h
      · rename_i u i v0 hc hf
        obtain ⟨d, hd⟩ := checkKey_under (n := 9999) hc
        obtain ⟨r', q1, q2⟩ := findKey_run hd hE hf
        have hc' := pureRun_run _ _ hc w
        split at h
        · rename_i en hen
          split at h
          · rename_i hsame
            obtain ⟨p1, p2, p3⟩ := HS.put_spec h
            cases r' with
            | none => exact q1.elim
            | some r' =>
              obtain ⟨j, v1⟩ := r'
              obtain ⟨hij, _⟩ := q1
              subst hij
              obtain ⟨en', hen', hER⟩ := hE.at i en hen
              refine ⟨p2, r, p3, { w with heap := w.heap.setIfInBounds e.blk (.map (es'.modify i fun e => { e with key := k', val := v' }) c) }, ?_, ?_⟩
              · have hk1 : (((es'[i]?).map (·.key)).getD k') = en.key := by
                  rw [← Array.getElem?_toList, hen']
                  simp [hER.1]
                simp [Instr.mapUpdate, run_underlying hu, MapKept.run_getObj_map h1, hc', q2, Instr.keyThatStays, hk1, hsame, MapKept.run_setObj_map _ h1]
              · rw [p1]
                refine Tx.put H he hrow ⟨_, rfl, ?_⟩
                rw [Array.toList_modify]
                exact ELR.modify (f := fun e => { e with key := k', val := v }) (g := fun e => { e with key := k', val := v' }) (fun x y hxy => ⟨rfl, hb, hv, hxy.2.2.2⟩) i hE
          · cases h
        · cases h
      · rename_i u hc hf
        obtain ⟨d, hd⟩ := checkKey_under (n := 9999) hc
        obtain ⟨r', q1, q2⟩ := findKey_run hd hE hf
        have hc' := pureRun_run _ _ hc w
        obtain ⟨p1, p2, p3⟩ := HS.put_spec h
        cases r' with
        | some r' => exact q1.elim
        | none =>
          refine ⟨p2, r, p3, { w with heap := w.heap.setIfInBounds e.blk (.map (es'.push { key := k', val := v', born := c }) (c + 1)) }, ?_, ?_⟩
          · simp [Instr.mapUpdate, run_underlying hu, MapKept.run_getObj_map h1, hc', q2, MapKept.run_setObj_map _ h1]
          · rw [p1]
            refine Tx.put H he hrow ⟨_, rfl, ?_⟩
            rw [Array.toList_push]
            exact hE.append ⟨⟨rfl, hb, hv, rfl⟩, trivial⟩
      · cases h
    · cases h
  · cases h
theorem makeMap_run {s s' : HS} {t : Nat} (h : s.new (.map [] 0) = some s') (H : HR E s.at w) (hf : E s.next = none) :
    s'.next = s.next + 1 ∧ s'.log = s.log ∧ ∃ E' r' w', (Instr.makeMap t none).run P w = .ok r' w' ∧ VR E' (.map (some s.next)) r' ∧ Tx E s.at w s.next E' s'.at w' (s.next + 1) [] := by
  obtain ⟨h1, h2, h3⟩ := HS.new_spec h
  refine ⟨h2, h3, updE E s.next ⟨w.heap.size, 0, 0⟩, .map (some w.heap.size), { w with heap := w.heap.push (.map #[] 0) }, ?_, ?_, ?_⟩
  · rfl
  · exact VR.map s.next ⟨w.heap.size, 0, 0⟩ (by simp [updE])
  · rw [h1]
    exact Tx.new H hf rfl ⟨#[], rfl, trivial⟩
end
end Go.Proofs.YtcnclcfglfgjlaaGreatDoor.Cx
