/- Plain mathematics: decoding what was encoded, also cut off or with a string behind it. No condition. -/
import Derived.Test.YtfgfphodpghgbaaDoorEncMath
namespace Go.Proofs.YtfgfphodpghgbaaDoor.Crc
theorem u8_ofNat (n : Nat) : (UInt8.ofNat n).toNat = n % 256 := by simp
theorem record_eq (l : List UInt8) : record l = UInt8.ofNat (l.length / 256) :: UInt8.ofNat l.length :: (l ++ le4 (crc (head l.length ++ l))) := by
  simp [record, sealed, head]
theorem size2_two (a b : UInt8) (t : List UInt8) : size2 (a :: b :: t) = a.toNat * 256 + b.toNat := by simp [size2]
theorem size2_record (l t : List UInt8) (h : l.length ≤ 4096) : size2 (record l ++ t) = l.length := by
  rw [record_eq, List.cons_append, List.cons_append, size2_two, u8_ofNat, u8_ofNat]
  omega
theorem nextR_record (l t : List UInt8) (h : l.length ≤ 4096) : nextR (record l ++ t) = (l, l.length + 6, 0) := by
  have hs := size2_record l t h
  have hl : (record l ++ t).length = l.length + 6 + t.length := by simp [record_length]
  have ht : (record l ++ t).take (l.length + 2) = head l.length ++ l := by
    have e : record l ++ t = (head l.length ++ l) ++ (le4 (crc (head l.length ++ l)) ++ t) := by simp [record, sealed]
    rw [e]
    exact List.take_left' (by simp [head])
  have ht6 : (record l ++ t).take (l.length + 6) = record l := List.take_left' (by rw [record_length])
  have hd : ((record l ++ t).drop 2).take l.length = l := by
    rw [record_eq]
    simp
  rw [nextR_good _ (by omega) (by omega) (by omega) (by rw [hs, ht, ht6]; rfl), hs, hd]
theorem decode_nil : decode [] = ([], 0, 0) := rfl
theorem record_ne (l t : List UInt8) : record l ++ t ≠ [] := by rw [record_eq]; simp
theorem decode_cons (l t : List UInt8) (h : l.length ≤ 4096) : decode (record l ++ t) = (l :: (decode t).1, l.length + 6 + (decode t).2.1, (decode t).2.2) := by
  have hn := nextR_record l t h
  have hd : (record l ++ t).drop (l.length + 6) = t := List.drop_left' (by rw [record_length])
  have e : decode (record l ++ t) = dec ((record l ++ t).length - 1 + 1) (record l ++ t) := by
    unfold decode; congr 1
  rw [e, dec_good _ _ (record_ne l t) (by rw [hn]), hn]
  simp only [hd]
  rw [dec_fuel _ t.length t (by simp [record_length]) (Nat.le_refl _)]
  rfl
theorem decode_enc (ls : List (List UInt8)) (t : List UInt8) (h : fits ls) :
    decode (encL ls ++ t) = (ls ++ (decode t).1, (encL ls).length + (decode t).2.1, (decode t).2.2) := by
  induction ls with
  | nil => simp [encL]
  | cons l ls ih =>
    have hl : l.length ≤ 4096 := h l (by simp)
    have hls : fits ls := fun x hx => h x (by simp [hx])
    rw [show encL (l :: ls) ++ t = record l ++ (encL ls ++ t) from by simp [encL], decode_cons l _ hl, ih hls]
    simp [encL, record_length]
    omega
theorem decode_all (ls : List (List UInt8)) (h : fits ls) : decode (encL ls) = (ls, (encL ls).length, 0) := by
  have := decode_enc ls [] h
  rw [List.append_nil] at this
  rw [this, decode_nil]; simp
theorem encL_drop (ls : List (List UInt8)) (k : Nat) : encL ls = encL (ls.take k) ++ encL (ls.drop k) := by
  rw [← encL_append, List.take_append_drop]
/-- Next at the beginning of the k-th record -/
theorem next_enc (ls : List (List UInt8)) (k : Nat) (hk : k < ls.length) (h : fits ls) :
    next (encL ls) ((encL (ls.take k)).length : Nat) = (ls[k], (((encL (ls.take k)).length + (ls[k].length + 6) : Nat) : Int), 0) := by
  have hd : (encL ls).drop (encL (ls.take k)).length = record ls[k] ++ encL (ls.drop (k + 1)) := by
    rw [encL_drop ls k, List.drop_left, List.drop_eq_getElem_cons hk]
    rfl
  have hl : ls[k].length ≤ 4096 := h _ (List.getElem_mem hk)
  have hle : (encL (ls.take k)).length ≤ (encL ls).length := by rw [encL_drop ls k]; simp
  rw [next_good _ _ (ls[k].length + 6) ls[k] hle (by rw [hd]; exact nextR_record _ _ hl)]
  simp

/-- how many records end within the first cut bytes, and where the last of them ends -/
def whole : List (List UInt8) → Nat → Nat × Nat
  | [], _ => (0, 0)
  | l :: ls, cut => if cut < l.length + 6 then (0, 0) else ((whole ls (cut - (l.length + 6))).1 + 1, l.length + 6 + (whole ls (cut - (l.length + 6))).2)
theorem whole_le (ls : List (List UInt8)) : ∀ cut, (whole ls cut).1 ≤ ls.length ∧ (whole ls cut).2 ≤ cut := by
  induction ls with
  | nil => intro cut; simp [whole]
  | cons l ls ih =>
    intro cut
    unfold whole
    split
    · simp
    · have := ih (cut - (l.length + 6))
      simp only [List.length_cons]
      omega
theorem nextR_part (l t : List UInt8) (c : Nat) (h : l.length ≤ 4096) (h1 : 0 < c) (h2 : c < l.length + 6) : nextR ((record l ++ t).take c) = ([], 0, 14) := by
  have hlen : ((record l ++ t).take c).length = c := by simp [record_length]; omega
  by_cases hc : c < 2
  · exact nextR_short _ (by omega)
  · have hs : size2 ((record l ++ t).take c) = l.length := by
      obtain ⟨c, rfl⟩ : ∃ c', c = c' + 2 := ⟨c - 2, by omega⟩
      have := size2_record l t h
      rw [record_eq] at this ⊢
      simp only [List.cons_append, List.take_succ_cons, size2_two] at this ⊢
      exact this
    exact nextR_cut _ (by omega) (by omega) (by omega)
theorem decode_part (l t : List UInt8) (c : Nat) (h : l.length ≤ 4096) (h1 : 0 < c) (h2 : c < l.length + 6) : decode ((record l ++ t).take c) = ([], 0, 14) := by
  have hn := nextR_part l t c h h1 h2
  have hlen : ((record l ++ t).take c).length = c := by simp [record_length]; omega
  have hne : (record l ++ t).take c ≠ [] := by
    intro e; rw [e] at hlen; simp at hlen; omega
  unfold decode
  rw [hlen]
  obtain ⟨c, rfl⟩ : ∃ c', c = c' + 1 := ⟨c - 1, by omega⟩
  rw [dec_bad c _ hne (by rw [hn]; decide), hn]
/-- records that are cut off -/
theorem decode_cut (ls : List (List UInt8)) : ∀ cut, fits ls → cut ≤ (encL ls).length →
    decode ((encL ls).take cut) = (ls.take (whole ls cut).1, (whole ls cut).2, if (whole ls cut).2 = cut then 0 else 14) := by
  induction ls with
  | nil =>
    intro cut _ hc
    have : cut = 0 := by simpa [encL] using hc
    subst this
    rfl
  | cons l ls ih =>
    intro cut hf hc
    have hl : l.length ≤ 4096 := hf l (by simp)
    have hls : fits ls := fun x hx => hf x (by simp [hx])
    have hen : encL (l :: ls) = record l ++ encL ls := rfl
    by_cases h6 : cut < l.length + 6
    · have hw : whole (l :: ls) cut = (0, 0) := by unfold whole; rw [if_pos h6]
      rw [hw]
      rcases Nat.eq_zero_or_pos cut with h0 | h0
      · subst h0; rfl
      · rw [hen, decode_part l _ cut hl h0 h6, if_neg (by simp only; omega)]
        rfl
    · have hw : whole (l :: ls) cut = ((whole ls (cut - (l.length + 6))).1 + 1, l.length + 6 + (whole ls (cut - (l.length + 6))).2) := by
        rw [whole, if_neg h6]
      have ht : (encL (l :: ls)).take cut = record l ++ (encL ls).take (cut - (l.length + 6)) := by
        rw [hen, List.take_append, record_length, List.take_of_length_le (by rw [record_length]; omega)]
      rw [ht, decode_cons l _ hl, ih (cut - (l.length + 6)) hls (by rw [hen, List.length_append, record_length] at hc; omega), hw]
      simp only [List.take_succ_cons]
      have hle := (whole_le ls (cut - (l.length + 6))).2
      by_cases he : (whole ls (cut - (l.length + 6))).2 = cut - (l.length + 6)
      · rw [if_pos he, if_pos (by omega)]
      · rw [if_neg he, if_neg (by omega)]
end Go.Proofs.YtfgfphodpghgbaaDoor.Crc
