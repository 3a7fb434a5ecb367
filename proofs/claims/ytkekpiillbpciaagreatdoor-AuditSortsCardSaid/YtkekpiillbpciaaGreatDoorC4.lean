/- CxMem5; CxMem6; CxMem7: merged into one text: lemmas for the walk of the law. No condition. -/
import Derived.Test.YtkekpiillbpciaaGreatDoorC3
import Derived.MapKept
import Derived.Lib.UnsafeStr
import Derived.Lib.Builder
import Derived.Laws.Externs
import Derived.Lib.MakeNoZero
/- A machine that runs a program's code on written inputs by computation alone, part 11: copy, conversions, maps. No condition. -/
namespace Go.Proofs.YtkekpiillbpciaaGreatDoor.Cx
open Go

section
variable {P : Program} {E : Em} {w : World}
theorem copyA_run {s s' : HS} {t ty : Nat} {ts : Array TypeId} {tr : List TypeId} {x x' y y' r : Value} (h : copyA P s t x y = some (r, s')) (hts : ts.toList = t :: tr) (H : HR E s.at w) (hx : VR E x x') (hy : VR E y y') :
    Makes P E s s' w r (Builtin.copy_ ts ty #[x', y']) := by
  have ht0 : ts[0]? = some t := by rw [← Array.getElem?_toList, hts]; rfl
  unfold copyA at h
  split at h
  · rename_i e base l c n hu hlen
    split at h
    · rename_i z hz
      split at h
      · rename_i new hnew
        obtain ⟨new', hnr, hfc⟩ := sourceA_cells (P := P) hnew H hy
        have hfc := hfc w rfl
        have hl := lenA_run (P := P) hlen hy w
        split at h
        · rename_i b o
          split at h
          · rename_i s2 hs2
            cases h
            obtain ⟨em, c', he, rfl, _⟩ := slice_inv hx
            obtain ⟨k1, k2, w', k3, k4⟩ := storeRow_run (P := P) hs2 H hnr he
            refine ⟨[b], k2, by omega, E, _, w', ?_, .int _ _, by rw [k1]; exact k4⟩
            simp [Builtin.copy_, ht0, run_underlying hu, hl, sizeT_run hz, hfc, k3, goInt]
          · cases h
        · cases h
          obtain rfl := slice0_inv hx
          refine ⟨[], rfl, Nat.le_refl _, E, _, w, ?_, .int _ _, Tx.refl _ H⟩
          simp [Builtin.copy_, ht0, run_underlying hu, hl, sizeT_run hz, hfc, goInt]
        · cases h
      · cases h
    · cases h
  · cases h

theorem toBytes_spec : ∀ (xs : List Value) (l : List UInt8), toBytes xs = some l → ∃ ns : List Int, xs = ns.map (Value.int .u8) ∧ l = ns.map (fun n => UInt8.ofNat n.toNat)
  | [], l, h => by simp only [toBytes, Option.some.injEq] at h; subst h; exact ⟨[], rfl, rfl⟩
  | x :: xs, l, h => by
    unfold toBytes at h
    split at h
    · rename_i h0; cases h0
    · rename_i n r h0
      cases h0
      split at h
      · rename_i l' hl
        cases h
        obtain ⟨ns, h1, h2⟩ := toBytes_spec xs l' hl
        exact ⟨n :: ns, by rw [h1]; rfl, by rw [h2]; rfl⟩
      · cases h
    · cases h
theorem push_all : ∀ (l : List Int) (r : ByteArray), l.foldl (fun r n => r.push (UInt8.ofNat n.toNat)) r = ⟨r.data ++ (l.map fun z => UInt8.ofNat z.toNat).toArray⟩
  | [], r => by simp
  | z :: l, r => by simp only [List.foldl_cons, push_all l]; simp [ByteArray.push]
theorem convA_run {s s' : HS} {src dst : Nat} {x x' r : Value} (h : convA P s src dst x = some (r, s')) (H : HR E s.at w) (hf : s.next < s'.next → E s.next = none) (hx : VR E x x') :
    Makes P E s s' w r (convert src dst x') := by
  unfold convA at h
  split at h
  · rename_i e a n c hs hd
    split at h
    · rename_i he8
      split at h
      · cases h
        obtain rfl := slice0_inv hx
        refine ⟨[], rfl, Nat.le_refl _, E, _, w, ?_, .string _, Tx.refl _ H⟩
        simp [convert, run_underlying hs, run_underlying hd, run_underlying he8, Conv.bytesToString]
      · rename_i b o
        split at h
        · rename_i cs t1 z1 hrow
          split at h
          · rename_i xs hxs
            split at h
            · rename_i l hl
              cases h
              obtain ⟨em, cur, fz, he, _, hcur, _, _, _, hcl⟩ := H.row hrow
              obtain ⟨em', c', he', rfl, _⟩ := slice_inv hx
              rw [he] at he'; cases he'
              obtain ⟨ys, y1, y2, y3⟩ := cellsA_rel hxs hcl
              obtain ⟨ns, rfl, rfl⟩ := toBytes_spec xs l hl
              have hys : ys = ns.map (Value.int .u8) := arr_eq_of_lr y2 fun x hx y hv => by
                obtain ⟨n, _, rfl⟩ := List.mem_map.1 hx
                exact int_inv hv
              have hload := load_cells (P := P) hcur y1 y3
              rw [hys] at hload
              have hr := run_bytesToString (P := P) w ⟨em.blk, o, none⟩ n c' ns hload
              refine ⟨[], rfl, Nat.le_refl _, E, _, w, ?_, .string _, Tx.refl _ H⟩
              rw [push_all] at hr
              have he0 : ByteArray.empty.data = #[] := rfl
              rw [he0] at hr
              simp only [Array.empty_append] at hr
              simp [convert, run_underlying hs, run_underlying hd, run_underlying he8, hr]
            · cases h
          · cases h
        · cases h
      · cases h
    · cases h
  · rename_i e t hs hd
    split at h
    · rename_i he8
      split at h
      case h_2 => cases h
      rename_i htl
      have htl := ble_le htl
      obtain rfl := string_inv hx
      have hsn : s'.next = s.next + 1 := by
        unfold newRowA at h
        split at h
        · rename_i s2 hn2; cases h; exact (HS.new_spec hn2).2.1
        · cases h
      have hrun := run_bytes_of_string (P := P) w src dst e t hs hd he8
      have hge := grownCap_ge w t.size 0 e
      have hsz : (bytesRow t (grownCap w t.size 0 e)).size = grownCap w t.size 0 e := by
        have : t.data.size = t.size := rfl
        simp [bytesRow]; omega
      have hH : HR E s.at w.drew := H.world rfl
      have hl : (t.data.toList.map fun b => Value.int .u8 (b.toNat : Int)).length = t.size := by rw [List.length_map]; rfl
      obtain ⟨k1, k2, E', k3, k4⟩ := newRowA_run (w := w.drew) (cur := bytesRow t (grownCap w t.size 0 e)) (fz := ((bytesRow t (grownCap w t.size 0 e)).size, (bytesRow t (grownCap w t.size 0 e)).size + 1)) (cap' := grownCap w t.size 0 e) h hH (hf (by omega))
        (by rw [hl, hsz]; exact hge)
        (by
          rw [hl]
          have : (bytesRow t (grownCap w t.size 0 e)).toList.take t.size = t.data.toList.map fun b => Value.int .u8 (b.toNat : Int) := by
            have h0 : t.data.size = t.size := rfl
            simp only [bytesRow, Array.toList_append, Array.toList_map]
            rw [List.take_append_of_le_length (by simp [h0]), List.take_of_length_le (by simp [h0])]
          rw [this]
          refine bare0_all_self ?_
          rw [List.all_eq_true]
          intro x hx
          obtain ⟨b, _, rfl⟩ := List.mem_map.1 hx
          rfl)
        (.inr (Nat.le_refl _)) (.inr ⟨rfl, by rw [hsz, Nat.mul_one]⟩) hge (by rw [hsz, Nat.mul_one]; exact Nat.le_refl _) (by
          have := grownCap_le_maxLen w t.size 0 e (by unfold maxLen; unfold lim at htl; omega)
          unfold maxLen at this
          unfold unk
          omega)
      refine ⟨[], by simpa using k2, by omega, E', _, _, hrun, k3, ?_⟩
      rw [k1]
      exact k4.drewL
    · cases h
  · cases h

/-- the entries of a map -/
theorem ELR.length : ∀ {xs ys : List MapEntry}, ELR E xs ys → xs.length = ys.length
  | [], [], _ => rfl
  | _ :: _, _ :: _, h => by simp [ELR.length h.2]
  | [], _ :: _, h => h.elim
  | _ :: _, [], h => h.elim
theorem ELR.at : ∀ {xs ys : List MapEntry}, ELR E xs ys → ∀ (i : Nat) (x : MapEntry), xs[i]? = some x → ∃ y, ys[i]? = some y ∧ ER E x y
  | [], [], _, i, x, hx => by simp at hx
  | a :: xs, b :: ys, h, i, x, hx => by
    cases i with
    | zero => simp at hx; subst hx; exact ⟨b, rfl, h.1⟩
    | succ i => simpa using ELR.at h.2 i x (by simpa using hx)
  | [], _ :: _, h, _, _, _ => h.elim
  | _ :: _, [], h, _, _, _ => h.elim
theorem ELR.append : ∀ {xs ys us vs : List MapEntry}, ELR E xs ys → ELR E us vs → ELR E (xs ++ us) (ys ++ vs)
  | [], [], _, _, _, h => h
  | _ :: _, _ :: _, _, _, h, k => ⟨h.1, ELR.append h.2 k⟩
  | [], _ :: _, _, _, h, _ => h.elim
  | _ :: _, [], _, _, h, _ => h.elim
theorem ELR.modify {f g : MapEntry → MapEntry} (hfg : ∀ x y, ER E x y → ER E (f x) (g y)) : ∀ {xs ys : List MapEntry} (i : Nat), ELR E xs ys → ELR E (xs.modify i f) (ys.modify i g)
  | [], [], _, _ => by simp [ELR]
  | _ :: _, _ :: _, 0, h => by simpa [ELR] using ⟨hfg _ _ h.1, h.2⟩
  | _ :: _, _ :: _, i + 1, h => by simpa [ELR] using ⟨h.1, ELR.modify hfg i h.2⟩
  | [], _ :: _, _, h => h.elim
  | _ :: _, [], _, h => h.elim
def FR (E : Em) : Option (Nat × Value) → Option (Nat × Value) → Prop
  | none, none => True
  | some (i, v), some (j, v') => i = j ∧ VR E v v'
  | _, _ => False
theorem equalIn_int {kt : Nat} {j k : IntKind} {a b : Int} (n : Nat) (hu : P.underlying kt = some (.int j)) (w : World) : (Op.equalIn (n + 1) kt (.int k a) (.int k b)).run P w = .ok (a == b) w := by
  simp [Op.equalIn, run_underlying hu]
theorem equalIn_string {kt : Nat} {a b : ByteArray} (n : Nat) (hu : P.underlying kt = some .string) (w : World) : (Op.equalIn (n + 1) kt (.string a) (.string b)).run P w = .ok (a == b) w := by
  simp [Op.equalIn, run_underlying hu]
theorem equalIn_bool {kt : Nat} {a b : Bool} (n : Nat) (hu : P.underlying kt = some .bool) (w : World) : (Op.equalIn (n + 1) kt (.bool a) (.bool b)).run P w = .ok (a == b) w := by
  simp [Op.equalIn, run_underlying hu]
theorem ok_inj {α : Type} {a b : α} {w : World} (h : (Result.ok a w : Result α) = .ok b w) : a = b := by cases h; rfl
theorem sameNow_equal {kt : Nat} {d : TypeDesc} (hu : P.underlying kt = some d) {k e : Value} {b c : Bool} (h : Instr.sameNow d k e = some b) (hp : pureRun P (Op.equal kt k e) = some c) : b = c := by
  have hr := pureRun_run _ _ hp (default : World)
  rw [equal_eq] at hr
  unfold Instr.sameNow at h
  split at h
  · split at h
    · rename_i hk
      subst hk
      cases h
      rw [equalIn_int 9999 hu] at hr
      exact ok_inj hr
    · cases h
  · cases h
    rw [equalIn_string 9999 hu] at hr
    exact ok_inj hr
  · cases h
    rw [equalIn_bool 9999 hu] at hr
    exact ok_inj hr
  · cases h
theorem findNow_rel {kt : Nat} {d : TypeDesc} (hu : P.underlying kt = some d) {k : Value} : ∀ (es es' : List MapEntry) (i : Nat) (r r' : Option (Nat × Value)), ELR E es es' → findA P kt k es i = some r → Instr.findNow d k es' i = some r' → FR E r r'
  | [], [], i, r, r', _, h, h' => by
    simp only [findA, Option.some.injEq] at h
    simp only [Instr.findNow, Option.some.injEq] at h'
    subst h; subst h'; trivial
  | e :: es, e' :: es', i, r, r', hE, h, h' => by
    obtain ⟨⟨hk, hb, hv, _⟩, hE⟩ := hE
    simp only [findA, hb] at h
    unfold Instr.findNow at h'
    rw [← hk] at h'
    split at h
    · rename_i hp
      split at h'
      · cases h; cases h'; exact ⟨rfl, hv⟩
      · rename_i hs; exact absurd (sameNow_equal hu hs hp) (by simp)
      · cases h'
    · rename_i hp
      split at h'
      · rename_i hs; exact absurd (sameNow_equal hu hs hp) (by simp)
      · exact findNow_rel hu es es' (i + 1) r r' hE h h'
      · cases h'
    · cases h
  | [], _ :: _, _, _, _, h, _, _ => h.elim
  | _ :: _, [], _, _, _, h, _, _ => h.elim
theorem findAsking_rel {kt : Nat} {k : Value} : ∀ (es es' : List MapEntry) (i : Nat) (r : Option (Nat × Value)), ELR E es es' → findA P kt k es i = some r → ∃ r', FR E r r' ∧ ∀ w, (Instr.findAsking kt k es' i).run P w = .ok r' w
  | [], [], i, r, _, h => by
    simp only [findA, Option.some.injEq] at h
    subst h
    exact ⟨none, trivial, fun w => rfl⟩
  | e :: es, e' :: es', i, r, hE, h => by
    obtain ⟨⟨hk, hb, hv, _⟩, hE⟩ := hE
    simp only [findA, hb] at h
    split at h
    · rename_i hp
      cases h
      refine ⟨some (i, e'.val), ⟨rfl, hv⟩, fun w => ?_⟩
      have hr := pureRun_run _ _ hp w
      rw [hk] at hr
      simp [Instr.findAsking, hr]
    · rename_i hp
      obtain ⟨r', h1, h2⟩ := findAsking_rel es es' (i + 1) r hE h
      refine ⟨r', h1, fun w => ?_⟩
      have hr := pureRun_run _ _ hp w
      rw [hk] at hr
      simp [Instr.findAsking, hr, h2]
    · cases h
  | [], _ :: _, _, _, h, _ => h.elim
  | _ :: _, [], _, _, h, _ => h.elim
theorem findKey_run {kt : Nat} {d : TypeDesc} (hu : P.underlying kt = some d) {k : Value} {es es' : List MapEntry} {r : Option (Nat × Value)} (hE : ELR E es es') (h : findA P kt k es 0 = some r) :
    ∃ r', FR E r r' ∧ ∀ w, (Instr.findKey kt k es').run P w = .ok r' w := by
  cases hn : Instr.findNow d k es' 0 with
  | some r' => exact ⟨r', findNow_rel hu es es' 0 r r' hE h hn, fun w => by simp [Instr.findKey, run_underlying hu, hn]⟩
  | none =>
    obtain ⟨r', h1, h2⟩ := findAsking_rel es es' 0 r hE h
    exact ⟨r', h1, fun w => by simp [Instr.findKey, run_underlying hu, hn, h2]⟩
end
end Go.Proofs.YtkekpiillbpciaaGreatDoor.Cx

/- A machine that runs a program's code on written inputs by computation alone, part 12: maps. No condition. -/
namespace Go.Proofs.YtkekpiillbpciaaGreatDoor.Cx
open Go

section
variable {P : Program} {E : Em} {w : World}
theorem map_inv {r : Nat} {v : Value} (h : VR E (.map (some r)) v) : ∃ e, E r = some e ∧ v = .map (some e.blk) := by
  cases h with
  | map r e he => exact ⟨e, he, rfl⟩
theorem map0_inv {v : Value} (h : VR E (.map none) v) : v = .map none := by cases h; rfl
theorem HR.mapAt {h : Hp} (H : HR E h w) {b c : Nat} {es : List MapEntry} (hb : h b = some (.map es c)) :
    ∃ e es', E b = some e ∧ w.heap[e.blk]? = some (.map es' c) ∧ ELR E es es'.toList := by
  obtain ⟨e, he, es', h1, h2⟩ := H.here b _ hb
  exact ⟨e, es', he, h1, h2⟩
theorem elr_empty {es : List MapEntry} {es' : Array MapEntry} (h : ELR E es es'.toList) : es.isEmpty = es'.isEmpty := by
  have hl := h.length
  cases es with
  | nil =>
    have : es' = #[] := Array.eq_empty_of_size_eq_zero (by simpa using hl.symm)
    rw [this]; rfl
  | cons a es =>
    have hn : es'.size ≠ 0 := by simp at hl; omega
    cases hb : es'.isEmpty
    · rfl
    · rw [Array.isEmpty_iff] at hb; rw [hb] at hn; simp at hn
theorem checkKey_under {e : Bool} {n kt : Nat} {k : Value} {u : Unit} (h : pureRun P (Instr.checkKey e (n + 1) kt k) = some u) : ∃ d, P.underlying kt = some d := by
  cases hd : P.underlying kt with
  | some d => exact ⟨d, rfl⟩
  | none =>
    have := pureRun_run _ _ h (default : World)
    simp [Instr.checkKey, underlying, hd] at this
theorem ok_rel (ok : Bool) {v v' : Value} (b : Bool) (hv : VR E v v') : VR E (match ok with | true => .tuple #[v, .bool b] | false => v) (if ok then .tuple #[v', .bool b] else v') := by
  cases ok
  · exact hv
  · exact VR.tuple' (c := #[v, .bool b]) (c' := #[v', .bool b]) ⟨hv, .bool b, trivial⟩
theorem lookupA_run {s : HS} {t : Nat} {m m' k k' r : Value} {ok : Bool} (h : lookupA P s t m k ok = some r) (H : HR E s.at w) (hm : VR E m m') (hk : VR E k k') :
    ∃ r', VR E r r' ∧ (Instr.lookup t m' k' ok).run P w = .ok r' w := by
  unfold lookupA at h
  split at h
  · rename_i kt et hu hb
    obtain rfl := bare_eq hb hk
    split at h
    · rename_i rr z hz
      obtain ⟨hzr, hzb, _⟩ := zeroT_run hz
      split at h
      · rename_i es hes
        have main : ∃ es' : Array MapEntry, ELR E es es'.toList ∧ ((m' = .map none ∧ es' = #[]) ∨ ∃ b c, m' = .map (some b) ∧ w.heap[b]? = some (.map es' c)) := by
          cases rr with
          | none =>
            simp only [Option.some.injEq] at hes
            subst hes
            exact ⟨#[], trivial, .inl ⟨map0_inv hm, rfl⟩⟩
          | some b =>
            simp only at hes
            split at hes
            · rename_i es1 c hrow
              cases hes
              obtain ⟨e, es', he, h1, h2⟩ := H.mapAt hrow
              obtain ⟨e', he', rfl⟩ := map_inv hm
              rw [he] at he'; cases he'
              exact ⟨es', h2, .inr ⟨_, c, rfl, h1⟩⟩
            · cases hes
        obtain ⟨es', hE, hm'⟩ := main
        have fin : ∀ (v : Value) (b : Bool), (do Instr.checkKey es'.isEmpty 10000 kt k'
                                                 let (v, ok') ← match ← Instr.findKey kt k' es'.toList with
                                                   | some (_, v) => pure (v, true)
                                                   | none => pure (← zeroValue et, false)
                                                 pure (if ok then .tuple #[v, .bool ok'] else v) : Sem Value).run P w = .ok (if ok then .tuple #[v, .bool b] else v) w →
            (Instr.lookup t m' k' ok).run P w = .ok (if ok then .tuple #[v, .bool b] else v) w := by
          intro v b hv
          rw [← hv]
          rcases hm' with ⟨rfl, rfl⟩ | ⟨b, c, rfl, hb⟩
          · simp only [Instr.lookup, Sem.run_bind, run_underlying hu, Result.andThen_ok, Sem.run_pure]; rfl
          · simp only [Instr.lookup, Sem.run_bind, run_underlying hu, Result.andThen_ok, Sem.run_pure, MapKept.run_getObj_map hb]; rfl
        split at h
        · rename_i u i v hc hf
          cases h
          obtain ⟨d, hd⟩ := checkKey_under (n := 9999) hc
          obtain ⟨r', q1, q2⟩ := findKey_run hd hE hf
          have hc' := pureRun_run _ _ hc w
          rw [elr_empty hE] at hc'
          cases r' with
          | none => exact q1.elim
          | some r' =>
            obtain ⟨j, v'⟩ := r'
            exact ⟨_, ok_rel ok true q1.2, fin v' true (by simp [hc', q2])⟩
        · rename_i u hc hf
          cases h
          obtain ⟨d, hd⟩ := checkKey_under (n := 9999) hc
          obtain ⟨r', q1, q2⟩ := findKey_run hd hE hf
          have hc' := pureRun_run _ _ hc w
          rw [elr_empty hE] at hc'
          cases r' with
          | none => exact ⟨_, ok_rel ok false (bare_self z hzb), fin z false (by simp [hc', q2, hzr])⟩
          | some r' => exact q1.elim
        · cases h
      · cases h
    · cases h
  · cases h
theorem mapUpdateA_run {s s' : HS} {t : Nat} {m m' k k' v v' : Value} (h : mapUpdateA P s t m k v = some s') (H : HR E s.at w) (hm : VR E m m') (hk : VR E k k') (hv : VR E v v') :
    s'.next = s.next ∧ ∃ b, s'.log = b :: s.log ∧ ∃ w', (Instr.mapUpdate t m' k' v').run P w = .ok () w' ∧ Tx E s.at w s.next E s'.at w' s.next [b] := by
  unfold mapUpdateA at h
  simp only [forceS_eq, forceN_eq] at h
  split at h
  · rename_i kt et r hu hb
    obtain rfl := bare_eq hb hk
    split at h
    · rename_i es c hrow
      obtain ⟨e, es', he, h1, hE⟩ := H.mapAt hrow
      obtain ⟨e', he', rfl⟩ := map_inv hm
      rw [he] at he'; cases he'
      split at h
      · rename_i u i v0 hc hf
        obtain ⟨d, hd⟩ := checkKey_under (n := 9999) hc
        obtain ⟨r', q1, q2⟩ := findKey_run hd hE hf
        have hc' := pureRun_run _ _ hc w
        split at h
        · rename_i en hen
          split at h
          · rename_i hsame
            obtain ⟨p1, p2, p3⟩ := HS.put_spec h
            cases r' with
            | none => exact q1.elim
            | some r' =>
              obtain ⟨j, v1⟩ := r'
              obtain ⟨hij, _⟩ := q1
              subst hij
              obtain ⟨en', hen', hER⟩ := hE.at i en hen
              refine ⟨p2, r, p3, { w with heap := w.heap.setIfInBounds e.blk (.map (es'.modify i fun e => { e with key := k', val := v' }) c) }, ?_, ?_⟩
              · have hk1 : (((es'[i]?).map (·.key)).getD k') = en.key := by
                  rw [← Array.getElem?_toList, hen']
                  simp [hER.1]
                simp [Instr.mapUpdate, run_underlying hu, MapKept.run_getObj_map h1, hc', q2, Instr.keyThatStays, hk1, hsame, MapKept.run_setObj_map _ h1]
              · rw [p1]
                refine Tx.put H he hrow ⟨_, rfl, ?_⟩
                rw [Array.toList_modify]
                exact ELR.modify (f := fun e => { e with key := k', val := v }) (g := fun e => { e with key := k', val := v' }) (fun x y hxy => ⟨rfl, hb, hv, hxy.2.2.2⟩) i hE
          · cases h
        · cases h
      · rename_i u hc hf
        obtain ⟨d, hd⟩ := checkKey_under (n := 9999) hc
        obtain ⟨r', q1, q2⟩ := findKey_run hd hE hf
        have hc' := pureRun_run _ _ hc w
        obtain ⟨p1, p2, p3⟩ := HS.put_spec h
        cases r' with
        | some r' => exact q1.elim
        | none =>
          refine ⟨p2, r, p3, { w with heap := w.heap.setIfInBounds e.blk (.map (es'.push { key := k', val := v', born := c }) (c + 1)) }, ?_, ?_⟩
          · simp [Instr.mapUpdate, run_underlying hu, MapKept.run_getObj_map h1, hc', q2, MapKept.run_setObj_map _ h1]
          · rw [p1]
            refine Tx.put H he hrow ⟨_, rfl, ?_⟩
            rw [Array.toList_push]
            exact hE.append ⟨⟨rfl, hb, hv, rfl⟩, trivial⟩
      · cases h
    · cases h
  · cases h
theorem makeMap_run {s s' : HS} {t : Nat} (h : s.new (.map [] 0) = some s') (H : HR E s.at w) (hf : E s.next = none) :
    s'.next = s.next + 1 ∧ s'.log = s.log ∧ ∃ E' r' w', (Instr.makeMap t none).run P w = .ok r' w' ∧ VR E' (.map (some s.next)) r' ∧ Tx E s.at w s.next E' s'.at w' (s.next + 1) [] := by
  obtain ⟨h1, h2, h3⟩ := HS.new_spec h
  refine ⟨h2, h3, updE E s.next ⟨w.heap.size, 0, 0⟩, .map (some w.heap.size), { w with heap := w.heap.push (.map #[] 0) }, ?_, ?_, ?_⟩
  · rfl
  · exact VR.map s.next ⟨w.heap.size, 0, 0⟩ (by simp [updE])
  · rw [h1]
    exact Tx.new H hf rfl ⟨#[], rfl, trivial⟩
end
end Go.Proofs.YtkekpiillbpciaaGreatDoor.Cx

/- A machine that runs a program's code on written inputs by computation alone, part 12 b: pointers through unsafe.Pointer, texts of rows, lengths of maps. No condition. -/
namespace Go.Proofs.YtkekpiillbpciaaGreatDoor.Cx
open Go

section
variable {P : Program} {E : Em} {w : World}
theorem one_of_lr {x : Value} {q : List Value} (h : LR E [x] q) : ∃ x', q = [x'] ∧ VR E x x' := by
  cases q with
  | nil => exact h.elim
  | cons a q => cases q with
    | nil => exact ⟨a, rfl, h.1⟩
    | cons b q => exact h.2.elim
theorem shape_row {g : Nat} {cur : Array Value} {t : Nat} {fz : Nat × Nat} (h : w.heap[g]? = some (.cells cur t fz)) : w.shape? g = some (t, cur.size) := by
  unfold World.shape?
  rw [h]
theorem liesAt_head {e : TypeId} (hc : 0 < P.cellsOf e) (count : Nat) (hn : 1 ≤ count) : liesAt P P.depth e count 0 e 1 = true := by
  have hd : P.depth = (2 * (P.types.size + Made.depth) + 1) + 1 := rfl
  have h0 : P.cellsOf e ≠ 0 := by omega
  rw [hd]
  simp only [liesAt, Bool.or_eq_true]
  left
  rw [hd]
  simp [rowAt, h0, hn, sameLayout]
theorem convPtrA_run {s : HS} {src dst : Nat} {x x' v : Value} (h : convPtrA P s src dst x = some v) (H : HR E s.at w) (hx : VR E x x') : ∃ v', VR E v v' ∧ (convert src dst x').run P w = .ok v' w := by
  unfold convPtrA at h
  split at h
  · rename_i t b o hs hd
    split at h
    · rename_i cs te z j hrow hj
      split at h
      · rename_i h0 hlt
        cases h
        obtain ⟨e, cur, fz, he, _, hc, _, _, hle, _⟩ := H.row hrow
        obtain ⟨e', he', rfl⟩ := ptr_inv hx
        rw [he] at he'
        cases he'
        have hlt' : o < cs.length := by simpa [Nat.blt_eq] using hlt
        exact ⟨_, VR.ptr b o e he, Lib.run_to_unsafe (P := P) w ⟨e.blk, o, none⟩ hs hd hj (beq_ne h0) (shape_row hc) (by show o < cur.size; omega)⟩
      · cases h
    · cases h
  · rename_i u b hs hd
    split at h
    · rename_i cs te z j hrow hj
      split at h
      · rename_i h0 h1 h2
        cases h
        obtain rfl := beq_eq h0
        obtain ⟨e, cur, fz, he, _, hc, _, _, hle, _⟩ := H.row hrow
        obtain ⟨e', he', rfl⟩ := ptr_inv hx
        rw [he] at he'
        cases he'
        have h1' : 0 < P.cellsOf te := by simpa [Nat.blt_eq] using h1
        have h2' := ble_le h2
        have h3 : 1 ≤ cur.size / P.cellsOf te := (Nat.one_le_div_iff h1').2 (by omega)
        exact ⟨_, VR.ptr b 0 e he, Lib.run_from_unsafe (P := P) w ⟨e.blk, 0, none⟩ hs hd hj (shape_row hc) (liesAt_head h1' _ h3)⟩
      · cases h
    · cases h
  · cases h
theorem bytesA_spec : ∀ (xs : List Value) (l : List UInt8), bytesA xs = some l → xs = Lib.byteCells l
  | [], l, h => by simp only [bytesA, Option.some.injEq] at h; subst h; rfl
  | x :: xs, l, h => by
    unfold bytesA at h
    split at h
    · rename_i h0; cases h0
    · rename_i i r h0
      cases h0
      split at h
      · rename_i n
        split at h
        · rename_i l' hn hl
          cases h
          have hlt : n < 256 := by simpa [Nat.blt_eq] using hn
          have hb : (UInt8.ofNat n).toNat = n := by simp [Nat.mod_eq_of_lt hlt]
          rw [bytesA_spec xs l' hl]
          show _ = Value.int .u8 ((UInt8.ofNat n).toNat : Int) :: Lib.byteCells l'
          rw [hb]
          rfl
        · cases h
      · cases h
    · cases h
theorem freeze_put {g n : Nat} {cur : Array Value} {t : Nat} {fz : Nat × Nat} (hn : n ≠ 0) (hg : w.heap[g]? = some (.cells cur t fz)) : ∃ o, w.freeze ⟨g, 0, none⟩ n = { w with heap := w.heap.setIfInBounds g o } := by
  obtain ⟨lo, hi⟩ := fz
  refine ⟨.cells cur t (if lo == hi then (0, 0 + n) else (min lo 0, max hi (0 + n))), ?_⟩
  unfold World.freeze
  rw [if_neg hn]
  congr 1
  apply Array.ext_getElem?
  intro i
  rw [Array.getElem?_modify, Array.getElem?_setIfInBounds]
  by_cases hi : g = i
  · subst hi
    obtain ⟨hlt, hv⟩ := Array.getElem?_eq_some_iff.1 hg
    simp [hlt, hv]
  · simp [hi]
theorem unStrA_run {s s' : HS} {pt it ty : Nat} {x x' n n' r : Value} (h : unStrA P s pt x n = some (r, s')) (H : HR E s.at w) (hx : VR E x x') (hn : VR E n n') :
    Makes P E s s' w r (Builtin.unsafeString_ #[pt, it] ty #[x', n']) := by
  unfold unStrA at h
  split at h
  · rename_i e b i hu
    split at h
    · rename_i cs t z hrow
      split at h
      · rename_i m hb hm
        split at h
        · rename_i xs hxs
          split at h
          · rename_i l s1 hl hs1
            cases h
            rw [Bool.and_eq_true] at hb
            obtain rfl := beq_eq hb.1
            have hc1 := beq_eq hb.2
            obtain ⟨rfl, hmax⟩ := upTo_spec hm
            obtain rfl := int_inv hn
            obtain ⟨em, cur, fz, he, _, hcur, _, _, _, hcl⟩ := H.row hrow
            obtain ⟨em', he', rfl⟩ := ptr_inv hx
            rw [he] at he'
            cases he'
            obtain ⟨ys, y1, y2, y3⟩ := cellsA_rel hxs hcl
            obtain rfl := bytesA_spec xs l hl
            have hys : ys = Lib.byteCells l := arr_eq_of_lr y2 fun x hx y hv => by
              obtain ⟨n, _, rfl⟩ := List.mem_map.1 hx
              exact int_inv hv
            have hll : l.length = m + 1 := by rw [← y1, hys, Lib.byteCells_length]
            obtain ⟨p1, p2, p3⟩ := HS.drop_spec hs1
            have hcell : ∀ j x, l[j]? = some x → w.cell? ((⟨em.blk, 0, none⟩ : Addr).add j) = some (.int .u8 x.toNat) := by
              intro j x hj
              rw [add_eq, cell_of_row w em.blk (0 + j) cur _ fz hcur]
              have := y3 j (.int .u8 x.toNat) (by rw [hys]; simp [Lib.byteCells, hj])
              simpa using this
            have hlen : m + 1 ≤ cur.size := by
              have h1 : ys[m]? = some ys[m] := List.getElem?_eq_getElem (by omega)
              have h2 := y3 m _ h1
              have h3 := (List.getElem?_eq_some_iff.1 h2).1
              simp at h3
              omega
            have hrun := Lib.run_unsafeString_row (P := P) w pt it ty e hu hc1 em.blk cur.size (shape_row hcur) l (by intro h0; rw [h0] at hll; cases hll) (by omega) (by omega) hcell
            rw [hll] at hrun
            obtain ⟨o, ho⟩ := freeze_put (w := w) (n := m + 1) (by omega) hcur
            rw [ho] at hrun
            refine ⟨[b], p3, by omega, E, _, _, hrun, VR.string _, ?_⟩
            rw [p1, p2]
            exact Tx.letgo H he hrow o
          · cases h
        · cases h
      · cases h
    · cases h
  · cases h
theorem lenMapA_run {s : HS} {t ty : Nat} {m m' v : Value} (h : lenMapA P s t m = some v) (H : HR E s.at w) (hm : VR E m m') : ∃ v', VR E v v' ∧ (Builtin.len_ #[t] ty #[m']).run P w = .ok v' w := by
  unfold lenMapA at h
  split at h
  · rename_i k e hu
    cases h
    obtain rfl := map0_inv hm
    exact ⟨_, .int _ _, by simp [Builtin.len_, run_underlying hu, goInt]⟩
  · rename_i k e r hu
    split at h
    · rename_i es c hrow
      cases h
      obtain ⟨em, es', he, h1, hE⟩ := H.mapAt hrow
      obtain ⟨em', he', rfl⟩ := map_inv hm
      rw [he] at he'
      cases he'
      have hl := hE.length
      refine ⟨_, .int _ _, ?_⟩
      have hs : es'.size = es.length := by simpa using hl.symm
      simp [Builtin.len_, run_underlying hu, MapKept.run_getObj_map h1, goInt, hs]
    · cases h
  · cases h
theorem noEscape_run {g : Nat} {fn : Func} (hf : P.funcs[g]? = some fn) (hname : fn.name = "internal/abi.NoEscape") (horig : fn.origin = "") (hb : fn.body = none) (x : Value) (w : World) :
    (callFunc g #[x]).run P w = .ok (.value x) w := by
  obtain ⟨name, origin, rest⟩ := fn
  simp only at hname horig hb
  subst hname
  subst horig
  rw [run_callFunc_extern hf (by rfl) (by rw [hb]; rfl) (by kernel_rfl) (e := Extern.AbiNoEscape.same) (by kernel_rfl)]
  rfl
theorem makeNoZero_run {g : Nat} {fn : Func} {t : TypeId} (hf : P.funcs[g]? = some fn) (hname : fn.name = "internal/bytealg.MakeNoZero") (horig : fn.origin = "") (hb : fn.body = none) (hres : fn.resultTypes = #[t]) {n : Int} {v : Value} {w w' : World}
    (h : (Extern.BytealgMakeNoZero.makeNoZero fn.params #[t] #[.int .i64 n]).run P w = .ok v w') : (callFunc g #[.int .i64 n]).run P w = .ok (.value v) w' := by
  obtain ⟨name, origin, targs, params, resultTypes, rest⟩ := fn
  simp only at hname horig hb hres h
  subst hname
  subst horig
  subst hres
  rw [run_callFunc_extern hf (by rfl) (by rw [hb]; rfl) (by kernel_rfl) (e := Extern.BytealgMakeNoZero.makeNoZero params #[t]) (by kernel_rfl)]
  rw [h]
  rfl
end
end Go.Proofs.YtkekpiillbpciaaGreatDoor.Cx
