/- A machine that runs a program's code on written inputs by computation alone, part 11: copy, conversions, maps. No condition. -/
import Derived.Test.YtcnclcfglfgjlaaGreatDoorCxMem4
namespace Go.Proofs.YtcnclcfglfgjlaaGreatDoor.Cx
open Go

section
variable {P : Program} {E : Em} {w : World}
theorem copyA_run {s s' : HS} {t ty : Nat} {ts : Array TypeId} {tr : List TypeId} {x x' y y' r : Value} (h : copyA P s t x y = some (r, s')) (hts : ts.toList = t :: tr) (H : HR E s.at w) (hx : VR E x x') (hy : VR E y y') :
    Makes P E s s' w r (Builtin.copy_ ts ty #[x', y']) := by
  have ht0 : ts[0]? = some t := by rw [← Array.getElem?_toList, hts]; rfl
  unfold copyA at h
  split at h
  · rename_i e base l c n hu hlen
    split at h
    · rename_i z hz
      split at h
      · rename_i new hnew
        obtain ⟨new', hnr, hfc⟩ := sourceA_cells (P := P) hnew H hy
        have hfc := hfc w rfl
        have hl := lenA_run (P := P) hlen hy w
        split at h
        · rename_i b o
          split at h
          · rename_i s2 hs2
            cases h
            obtain ⟨em, c', he, rfl, _⟩ := slice_inv hx
            obtain ⟨k1, k2, w', k3, k4⟩ := storeRow_run (P := P) hs2 H hnr he
            refine ⟨[b], k2, by omega, E, _, w', ?_, .int _ _, by rw [k1]; exact k4⟩
            simp [Builtin.copy_, ht0, run_underlying hu, hl, sizeT_run hz, hfc, k3, goInt]
          · cases h
        · cases h
          obtain rfl := slice0_inv hx
          refine ⟨[], rfl, Nat.le_refl _, E, _, w, ?_, .int _ _, Tx.refl _ H⟩
          simp [Builtin.copy_, ht0, run_underlying hu, hl, sizeT_run hz, hfc, goInt]
        · cases h
      · cases h
    · cases h
  · cases h

theorem toBytes_spec : ∀ (xs : List Value) (l : List UInt8), toBytes xs = some l → ∃ ns : List Int, xs = ns.map (Value.int .u8) ∧ l = ns.map (fun n => UInt8.ofNat n.toNat)
  | [], l, h => by simp only [toBytes, Option.some.injEq] at h; subst h; exact ⟨[], rfl, rfl⟩
  | x :: xs, l, h => by
    unfold toBytes at h
    split at h
    · rename_i h0; cases h0
    · rename_i n r h0
      cases h0
      split at h
      · rename_i l' hl
        cases h
        obtain ⟨ns, h1, h2⟩ := toBytes_spec xs l' hl
        exact ⟨n :: ns, by rw [h1]; rfl, by rw [h2]; rfl⟩
      · cases h
    · cases h
theorem push_all : ∀ (l : List Int) (r : ByteArray), l.foldl (fun r n => r.push (UInt8.ofNat n.toNat)) r = ⟨r.data ++ (l.map fun z => UInt8.ofNat z.toNat).toArray⟩
  | [], r => by simp
  | z :: l, r => by simp only [List.foldl_cons, push_all l]; simp [ByteArray.push]
theorem convA_run {s s' : HS} {src dst : Nat} {x x' r : Value} (h : convA P s src dst x = some (r, s')) (H : HR E s.at w) (hf : s.next < s'.next → E s.next = none) (hx : VR E x x') :
    Makes P E s s' w r (convert src dst x') := by
  unfold convA at h
  split at h
  · rename_i e a n c hs hd
    split at h
    · rename_i he8
      split at h
      · cases h
        obtain rfl := slice0_inv hx
        refine ⟨[], rfl, Nat.le_refl _, E, _, w, ?_, .string _, Tx.refl _ H⟩
        simp [convert, run_underlying hs, run_underlying hd, run_underlying he8, Conv.bytesToString]
      · rename_i b o
        split at h
        · rename_i cs t1 z1 hrow
          split at h
          · rename_i xs hxs
            split at h
            · rename_i l hl
              cases h
              obtain ⟨em, cur, fz, he, _, hcur, _, _, _, hcl⟩ := H.row hrow
              obtain ⟨em', c', he', rfl, _⟩ := slice_inv hx
              rw [he] at he'; cases he'
              obtain ⟨ys, y1, y2, y3⟩ := cellsA_rel hxs hcl
              obtain ⟨ns, rfl, rfl⟩ := toBytes_spec xs l hl
              have hys : ys = ns.map (Value.int .u8) := arr_eq_of_lr y2 fun x hx y hv => by
                obtain ⟨n, _, rfl⟩ := List.mem_map.1 hx
                exact int_inv hv
              have hload := load_cells (P := P) hcur y1 y3
              rw [hys] at hload
              have hr := run_bytesToString (P := P) w ⟨em.blk, o, none⟩ n c' ns hload
              refine ⟨[], rfl, Nat.le_refl _, E, _, w, ?_, .string _, Tx.refl _ H⟩
              rw [push_all] at hr
              have he0 : ByteArray.empty.data = #[] := rfl
              rw [he0] at hr
              simp only [Array.empty_append] at hr
              simp [convert, run_underlying hs, run_underlying hd, run_underlying he8, hr]
            · cases h
          · cases h
        · cases h
      · cases h
    · cases h
  · rename_i e t hs hd
    split at h
    · rename_i he8
      obtain rfl := string_inv hx
      have hsn : s'.next = s.next + 1 := by
        unfold newRowA at h
        split at h
        · rename_i s2 hn2; cases h; exact (HS.new_spec hn2).2.1
        · cases h
      have hrun := run_bytes_of_string (P := P) w src dst e t hs hd he8
      have hge := grownCap_ge w t.size 0 e
      have hsz : (bytesRow t (grownCap w t.size 0 e)).size = grownCap w t.size 0 e := by
        have : t.data.size = t.size := rfl
        simp [bytesRow]; omega
      have hH : HR E s.at w.drew := H.world rfl
      have hl : (t.data.toList.map fun b => Value.int .u8 (b.toNat : Int)).length = t.size := by rw [List.length_map]; rfl
      obtain ⟨k1, k2, E', k3, k4⟩ := newRowA_run (w := w.drew) (cur := bytesRow t (grownCap w t.size 0 e)) (fz := ((bytesRow t (grownCap w t.size 0 e)).size, (bytesRow t (grownCap w t.size 0 e)).size + 1)) (cap' := grownCap w t.size 0 e) h hH (hf (by omega))
        (by rw [hl, hsz]; exact hge)
        (by
          rw [hl]
          have : (bytesRow t (grownCap w t.size 0 e)).toList.take t.size = t.data.toList.map fun b => Value.int .u8 (b.toNat : Int) := by
            have h0 : t.data.size = t.size := rfl
            simp only [bytesRow, Array.toList_append, Array.toList_map]
            rw [List.take_append_of_le_length (by simp [h0]), List.take_of_length_le (by simp [h0])]
          rw [this]
          refine bare0_all_self ?_
          rw [List.all_eq_true]
          intro x hx
          obtain ⟨b, _, rfl⟩ := List.mem_map.1 hx
          rfl)
        (.inr (Nat.le_refl _)) (.inr rfl) hge (by rw [hsz, Nat.mul_one]; exact Nat.le_refl _)
      refine ⟨[], by simpa using k2, by omega, E', _, _, hrun, k3, ?_⟩
      rw [k1]
      exact k4.drewL
    · cases h
  · cases h

/-- the entries of a map -/
theorem ELR.length : ∀ {xs ys : List MapEntry}, ELR E xs ys → xs.length = ys.length
  | [], [], _ => rfl
  | _ :: _, _ :: _, h => by simp [ELR.length h.2]
  | [], _ :: _, h => h.elim
  | _ :: _, [], h => h.elim
theorem ELR.at : ∀ {xs ys : List MapEntry}, ELR E xs ys → ∀ (i : Nat) (x : MapEntry), xs[i]? = some x → ∃ y, ys[i]? = some y ∧ ER E x y
  | [], [], _, i, x, hx => by simp at hx
  | a :: xs, b :: ys, h, i, x, hx => by
    cases i with
    | zero => simp at hx; subst hx; exact ⟨b, rfl, h.1⟩
    | succ i => simpa using ELR.at h.2 i x (by simpa using hx)
  | [], _ :: _, h, _, _, _ => h.elim
  | _ :: _, [], h, _, _, _ => h.elim
theorem ELR.append : ∀ {xs ys us vs : List MapEntry}, ELR E xs ys → ELR E us vs → ELR E (xs ++ us) (ys ++ vs)
  | [], [], _, _, _, h => h
  | _ :: _, _ :: _, _, _, h, k => ⟨h.1, ELR.append h.2 k⟩
  | [], _ :: _, _, _, h, _ => h.elim
  | _ :: _, [], _, _, h, _ => h.elim
theorem ELR.modify {f g : MapEntry → MapEntry} (hfg : ∀ x y, ER E x y → ER E (f x) (g y)) : ∀ {xs ys : List MapEntry} (i : Nat), ELR E xs ys → ELR E (xs.modify i f) (ys.modify i g)
  | [], [], _, _ => by simp [ELR]
  | _ :: _, _ :: _, 0, h => by simpa [ELR] using ⟨hfg _ _ h.1, h.2⟩
  | _ :: _, _ :: _, i + 1, h => by simpa [ELR] using ⟨h.1, ELR.modify hfg i h.2⟩
  | [], _ :: _, _, h => h.elim
  | _ :: _, [], _, h => h.elim
def FR (E : Em) : Option (Nat × Value) → Option (Nat × Value) → Prop
  | none, none => True
  | some (i, v), some (j, v') => i = j ∧ VR E v v'
  | _, _ => False
theorem equalIn_int {kt : Nat} {j k : IntKind} {a b : Int} (n : Nat) (hu : P.underlying kt = some (.int j)) (w : World) : (Op.equalIn (n + 1) kt (.int k a) (.int k b)).run P w = .ok (a == b) w := by
  simp [Op.equalIn, run_underlying hu]
theorem equalIn_string {kt : Nat} {a b : ByteArray} (n : Nat) (hu : P.underlying kt = some .string) (w : World) : (Op.equalIn (n + 1) kt (.string a) (.string b)).run P w = .ok (a == b) w := by
  simp [Op.equalIn, run_underlying hu]
theorem equalIn_bool {kt : Nat} {a b : Bool} (n : Nat) (hu : P.underlying kt = some .bool) (w : World) : (Op.equalIn (n + 1) kt (.bool a) (.bool b)).run P w = .ok (a == b) w := by
  simp [Op.equalIn, run_underlying hu]
theorem ok_inj {α : Type} {a b : α} {w : World} (h : (Result.ok a w : Result α) = .ok b w) : a = b := by cases h; rfl
theorem sameNow_equal {kt : Nat} {d : TypeDesc} (hu : P.underlying kt = some d) {k e : Value} {b c : Bool} (h : Instr.sameNow d k e = some b) (hp : pureRun P (Op.equal kt k e) = some c) : b = c := by
  have hr := pureRun_run _ _ hp (default : World)
  rw [equal_eq] at hr
  unfold Instr.sameNow at h
  split at h
  · split at h
    · rename_i hk
      subst hk
      cases h
      rw [equalIn_int 9999 hu] at hr
      exact ok_inj hr
    · cases h
  · cases h
    rw [equalIn_string 9999 hu] at hr
    exact ok_inj hr
  · cases h
    rw [equalIn_bool 9999 hu] at hr
    exact ok_inj hr
  · cases h
theorem findNow_rel {kt : Nat} {d : TypeDesc} (hu : P.underlying kt = some d) {k : Value} : ∀ (es es' : List MapEntry) (i : Nat) (r r' : Option (Nat × Value)), ELR E es es' → findA P kt k es i = some r → Instr.findNow d k es' i = some r' → FR E r r'
  | [], [], i, r, r', _, h, h' => by
    simp only [findA, Option.some.injEq] at h
    simp only [Instr.findNow, Option.some.injEq] at h'
    subst h; subst h'; trivial
  | e :: es, e' :: es', i, r, r', hE, h, h' => by
    obtain ⟨⟨hk, hb, hv, _⟩, hE⟩ := hE
    simp only [findA, hb] at h
    unfold Instr.findNow at h'
    rw [← hk] at h'
    split at h
    · rename_i hp
      split at h'
      · cases h; cases h'; exact ⟨rfl, hv⟩
      · rename_i hs; exact absurd (sameNow_equal hu hs hp) (by simp)
      · cases h'
    · rename_i hp
      split at h'
      · rename_i hs; exact absurd (sameNow_equal hu hs hp) (by simp)
      · exact findNow_rel hu es es' (i + 1) r r' hE h h'
      · cases h'
    · cases h
  | [], _ :: _, _, _, _, h, _, _ => h.elim
  | _ :: _, [], _, _, _, h, _, _ => h.elim
theorem findAsking_rel {kt : Nat} {k : Value} : ∀ (es es' : List MapEntry) (i : Nat) (r : Option (Nat × Value)), ELR E es es' → findA P kt k es i = some r → ∃ r', FR E r r' ∧ ∀ w, (Instr.findAsking kt k es' i).run P w = .ok r' w
  | [], [], i, r, _, h => by
    simp only [findA, Option.some.injEq] at h
    subst h
    exact ⟨none, trivial, fun w => rfl⟩
  | e :: es, e' :: es', i, r, hE, h => by
    obtain ⟨⟨hk, hb, hv, _⟩, hE⟩ := hE
    simp only [findA, hb] at h
    split at h
    · rename_i hp
      cases h
      refine ⟨some (i, e'.val), ⟨rfl, hv⟩, fun w => ?_⟩
      have hr := pureRun_run _ _ hp w
      rw [hk] at hr
      simp [Instr.findAsking, hr]
    · rename_i hp
      obtain ⟨r', h1, h2⟩ := findAsking_rel es es' (i + 1) r hE h
      refine ⟨r', h1, fun w => ?_⟩
      have hr := pureRun_run _ _ hp w
      rw [hk] at hr
      simp [Instr.findAsking, hr, h2]
    · cases h
  | [], _ :: _, _, _, h, _ => h.elim
  | _ :: _, [], _, _, h, _ => h.elim
theorem findKey_run {kt : Nat} {d : TypeDesc} (hu : P.underlying kt = some d) {k : Value} {es es' : List MapEntry} {r : Option (Nat × Value)} (hE : ELR E es es') (h : findA P kt k es 0 = some r) :
    ∃ r', FR E r r' ∧ ∀ w, (Instr.findKey kt k es').run P w = .ok r' w := by
  cases hn : Instr.findNow d k es' 0 with
  | some r' => exact ⟨r', findNow_rel hu es es' 0 r r' hE h hn, fun w => by simp [Instr.findKey, run_underlying hu, hn]⟩
  | none =>
    obtain ⟨r', h1, h2⟩ := findAsking_rel es es' 0 r hE h
    exact ⟨r', h1, fun w => by simp [Instr.findKey, run_underlying hu, hn, h2]⟩
end
end Go.Proofs.YtcnclcfglfgjlaaGreatDoor.Cx
