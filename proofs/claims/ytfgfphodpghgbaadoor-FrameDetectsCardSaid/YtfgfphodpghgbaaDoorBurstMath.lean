/- Plain mathematics: the checksum of a record detects every change of up to four consecutive bytes behind its length. No condition. -/
import Derived.Test.YtfgfphodpghgbaaDoorRoundMath
namespace Go.Proofs.YtfgfphodpghgbaaDoor.Crc
theorem xor_disj (i a q : Nat) (h : a < 2 ^ i) : (2 ^ i * q) ^^^ a = 2 ^ i * q + a := by
  have h1 : 2 ^ i * q ||| a = 2 ^ i * q + a := (Nat.two_pow_add_eq_or_of_lt h _).symm
  rw [← h1]
  apply Nat.eq_of_testBit_eq
  intro j
  rw [Nat.testBit_xor, Nat.testBit_or]
  by_cases hj : j < i
  · have : (2 ^ i * q).testBit j = false := by
      rw [Nat.testBit_two_pow_mul]; simp; omega
    simp [this]
  · have : a.testBit j = false := by
      apply Nat.testBit_lt_two_pow
      exact Nat.lt_of_lt_of_le h (Nat.pow_le_pow_right (by decide) (by omega))
    simp [this]
/-- bytes as a number, the lowest first -/
def pack : List UInt8 → Nat
  | [] => 0
  | b :: t => 256 * pack t + b.toNat
theorem run_pack (l : List UInt8) : ∀ c, run c l = step (8 * l.length) (c ^^^ pack l) := by
  induction l with
  | nil => intro c; simp [run, pack, step]
  | cons b t ih =>
    intro c
    have e : run c (b :: t) = run (feed c b) t := rfl
    rw [e, ih, feed_eq]
    have h2 : pack t = step 8 (2 ^ 8 * pack t) := (step_shift 8 _).symm
    rw [h2, ← step_xor, ← step_add]
    have h3 : pack (b :: t) = b.toNat ^^^ (2 ^ 8 * pack t) := by
      rw [Nat.xor_comm, xor_disj 8 b.toNat (pack t) (by have := b.toNat_lt; omega)]
      rfl
    rw [h3, Nat.xor_assoc]
    congr 1
    simp only [List.length_cons]; omega
theorem pack_lt (l : List UInt8) (h : l.length ≤ 4) : pack l < 4294967296 := by
  have key : ∀ l : List UInt8, pack l < 256 ^ l.length := by
    intro l
    induction l with
    | nil => decide
    | cons b t ih =>
      have := b.toNat_lt
      simp only [pack, List.length_cons, Nat.pow_succ]
      omega
  exact Nat.lt_of_lt_of_le (key l) (Nat.pow_le_pow_right (n := 256) (by decide) h)
theorem pack_inj (l : List UInt8) : ∀ m : List UInt8, l.length = m.length → pack l = pack m → l = m := by
  induction l with
  | nil => intro m h _; exact (List.eq_nil_of_length_eq_zero h.symm).symm
  | cons b t ih =>
    intro m h hp
    cases m with
    | nil => simp at h
    | cons c u =>
      have h1 := b.toNat_lt
      have h2 := c.toNat_lt
      simp only [pack] at hp
      have hb : b = c := UInt8.toNat_inj.1 (by omega)
      rw [hb, ih u (by simpa using h) (by omega)]
theorem bit_zero (x : Nat) (h : x < 4294967296) (hz : bit x = 0) : x = 0 := by
  unfold bit at hz
  split at hz
  · have : x / 2 = poly := by
      have h1 : x / 2 ^^^ poly ^^^ poly = 0 ^^^ poly := by rw [hz]
      rw [Nat.xor_assoc, Nat.xor_self, Nat.xor_zero, Nat.zero_xor] at h1
      exact h1
    unfold poly at this
    omega
  · omega
theorem step_zero (n : Nat) : ∀ x, x < 4294967296 → step n x = 0 → x = 0 := by
  induction n with
  | zero => intro x _ h; exact h
  | succ n ih => intro x hx h; exact bit_zero x hx (ih _ (bit_lt x hx) h)
theorem xor_eq_zero (a b : Nat) (h : a ^^^ b = 0) : a = b := by
  have h1 : a ^^^ b ^^^ b = 0 ^^^ b := by rw [h]
  rw [Nat.xor_assoc, Nat.xor_self, Nat.xor_zero, Nat.zero_xor] at h1
  exact h1
theorem step_inj (n a b : Nat) (ha : a < 4294967296) (hb : b < 4294967296) (h : step n a = step n b) : a = b := by
  apply xor_eq_zero
  apply step_zero n _ (Nat.xor_lt_two_pow (n := 32) ha hb)
  rw [step_xor, h, Nat.xor_self]
theorem feed_inj (b : UInt8) (c d : Nat) (hc : c < 4294967296) (hd : d < 4294967296) (h : feed c b = feed d b) : c = d := by
  rw [feed_eq, feed_eq] at h
  have h1 := step_inj 8 _ _ (byte_xor_lt c b hc) (byte_xor_lt d b hd) h
  apply xor_eq_zero
  have h2 : c ^^^ d = (c ^^^ b.toNat) ^^^ (d ^^^ b.toNat) := by
    have : (c ^^^ b.toNat) ^^^ (d ^^^ b.toNat) = c ^^^ d ^^^ (b.toNat ^^^ b.toNat) := by ac_rfl
    rw [this, Nat.xor_self, Nat.xor_zero]
  rw [h2, h1, Nat.xor_self]
theorem run_inj (l : List UInt8) : ∀ c d, c < 4294967296 → d < 4294967296 → run c l = run d l → c = d := by
  induction l with
  | nil => intro c d _ _ h; exact h
  | cons b t ih =>
    intro c d hc hd h
    exact feed_inj b c d hc hd (ih _ _ (feed_lt c b hc) (feed_lt d b hd) h)
theorem burst (c : Nat) (hc : c < 4294967296) (y y' z : List UInt8) (hl : y.length = y'.length) (h4 : y.length ≤ 4) (h : run c (y ++ z) = run c (y' ++ z)) : y = y' := by
  rw [run_append, run_append] at h
  have h1 := run_inj z _ _ (run_lt _ _ hc) (run_lt _ _ hc) h
  rw [run_pack, run_pack, hl] at h1
  have p1 := pack_lt y h4
  have p2 := pack_lt y' (by omega)
  have h2 := step_inj _ _ _ (Nat.xor_lt_two_pow (n := 32) hc p1) (Nat.xor_lt_two_pow (n := 32) hc p2) h1
  apply pack_inj y y' hl
  apply xor_eq_zero
  have h3 : pack y ^^^ pack y' = (c ^^^ pack y) ^^^ (c ^^^ pack y') := by
    have : (c ^^^ pack y) ^^^ (c ^^^ pack y') = pack y ^^^ pack y' ^^^ (c ^^^ c) := by ac_rfl
    rw [this, Nat.xor_self, Nat.xor_zero]
  rw [h3, h2, Nat.xor_self]
theorem pack_le4 (w : Nat) (h : w < 4294967296) : pack (le4 w) = w := by
  simp only [le4, pack, u8_ofNat]
  omega
theorem max_xor (c : Nat) (h : c < 4294967296) : c ^^^ (4294967295 - c) = 4294967295 := by
  have e : (BitVec.allOnes 32 ^^^ BitVec.ofNat 32 c) = ~~~(BitVec.ofNat 32 c) := BitVec.allOnes_xor
  have e2 := congrArg BitVec.toNat e
  rw [BitVec.toNat_xor, BitVec.toNat_not, BitVec.toNat_allOnes, BitVec.toNat_ofNat, Nat.mod_eq_of_lt (by simpa using h)] at e2
  have e3 : 4294967295 ^^^ c = 4294967295 - c := by simpa using e2
  rw [← e3]
  have : c ^^^ (4294967295 ^^^ c) = 4294967295 ^^^ (c ^^^ c) := by ac_rfl
  rw [this, Nat.xor_self, Nat.xor_zero]
/-- a string with its checksum leaves one and the same register -/
theorem run_sealed (l : List UInt8) : run 4294967295 (sealed l) = step 32 4294967295 := by
  have hc : run 4294967295 l < 4294967296 := run_lt _ _ (by decide)
  rw [sealed, run_append, run_pack, pack_le4 _ (crc_lt l)]
  unfold crc
  rw [max_xor _ hc]
  rfl
/-- bytes changed by exclusive or -/
def patch (l : List UInt8) (p : Nat) (ds : List UInt8) : Nat → List UInt8
  | 0 => l
  | i + 1 => (patch l p ds i).set (p + i) ((patch l p ds i).getD (p + i) 0 ^^^ ds.getD i 0)
theorem patch_length (l : List UInt8) (p : Nat) (ds : List UInt8) (i : Nat) : (patch l p ds i).length = l.length := by
  induction i with
  | zero => rfl
  | succ i ih => simp [patch, ih]
theorem patch_get (l : List UInt8) (p : Nat) (ds : List UInt8) (i j : Nat) (h : j < p ∨ p + i ≤ j) : (patch l p ds i)[j]? = l[j]? := by
  induction i with
  | zero => rfl
  | succ i ih =>
    rw [patch, List.getElem?_set]
    rw [if_neg (by omega)]
    exact ih (by omega)
theorem patch_stop (l : List UInt8) (p : Nat) (ds : List UInt8) (i k : Nat) (h : l.length ≤ p + i) : patch l p ds (i + k) = patch l p ds i := by
  induction k with
  | zero => rfl
  | succ k ih =>
    rw [← Nat.add_assoc, patch, ih, List.set_eq_of_length_le (by rw [patch_length]; omega)]
theorem detects (s : List UInt8) (p : Nat) (ds : List UInt8) (hs : s.length ≤ 4096) (hp : 2 ≤ p) (hne : patch (record s) p ds 4 ≠ record s) :
    nextR (patch (record s) p ds 4) = ([], 0, 13) := by
  have hlen : (patch (record s) p ds 4).length = s.length + 6 := by rw [patch_length, record_length]
  generalize hb : patch (record s) p ds 4 = b at *
  have hget : ∀ j, j < p ∨ p + 4 ≤ j → b[j]? = (record s)[j]? := fun j hj => by rw [← hb]; exact patch_get _ _ _ _ _ hj
  have hsz : size2 b = s.length := by
    have h1 := size2_record s [] hs
    rw [List.append_nil] at h1
    rw [← h1]
    simp only [size2, List.getD_eq_getElem?_getD, hget 0 (by omega), hget 1 (by omega)]
  refine nextR_bad b (by omega) (by omega) (by omega) ?_
  rw [hsz, show s.length + 6 = b.length from by omega, List.take_length]
  intro hv
  apply hne
  have r1 : run 4294967295 b = step 32 4294967295 := by
    have := run_sealed (b.take (s.length + 2))
    rwa [hv] at this
  have r2 : run 4294967295 (record s) = step 32 4294967295 := run_sealed _
  have hx : b.take p = (record s).take p := by
    apply List.ext_getElem?
    intro j
    rw [List.getElem?_take, List.getElem?_take]
    split
    · exact hget j (by omega)
    · rfl
  have hz : b.drop (p + 4) = (record s).drop (p + 4) := by
    apply List.ext_getElem?
    intro j
    rw [List.getElem?_drop, List.getElem?_drop]
    exact hget _ (by omega)
  have split3 : ∀ l : List UInt8, l = l.take p ++ ((l.drop p).take 4 ++ l.drop (p + 4)) := by
    intro l
    rw [← List.drop_drop, List.take_append_drop, List.take_append_drop]
  have h1 : run (run 4294967295 (b.take p)) ((b.drop p).take 4 ++ b.drop (p + 4)) = run (run 4294967295 (b.take p)) (((record s).drop p).take 4 ++ b.drop (p + 4)) := by
    rw [← run_append, ← split3 b, r1, hz, hx, ← run_append, ← split3 (record s), r2]
  have h2 := burst _ (run_lt _ _ (by decide)) _ _ _ (by simp [hlen, record_length]) (by simp; omega) h1
  rw [split3 b, split3 (record s), h2, hx, hz]
end Go.Proofs.YtfgfphodpghgbaaDoor.Crc
