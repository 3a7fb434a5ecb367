/- Plain mathematics of CRC-32: four steps by bits are one step by the table of sixteen; the register is linear. No condition. -/
namespace Go.Proofs.Ytlnbkljajocfoaa.Crc
def poly : Nat := 3988292384
def bit (c : Nat) : Nat := if c % 2 = 1 then (c / 2) ^^^ poly else c / 2
def step (n c : Nat) : Nat := match n with
  | 0 => c
  | n + 1 => step n (bit c)
def tab : List Nat := [0, 498536548, 997073096, 651767980, 1994146192, 1802195444, 1303535960, 1342533948, 3988292384, 4027552580, 3604390888, 3412177804, 2607071920, 2262029012, 2685067896, 3183342108]
def nib (c : Nat) : Nat := tab.getD (c % 16) 0 ^^^ c / 16
theorem bit_xor (a b : Nat) : bit (a ^^^ b) = bit a ^^^ bit b := by
  unfold bit
  have h1 : (a ^^^ b) / 2 = a / 2 ^^^ b / 2 := Nat.xor_div_two
  have h2 : (a ^^^ b) % 2 = (a % 2) ^^^ (b % 2) := Nat.xor_mod_two_pow (n := 1)
  rw [h1, h2]
  rcases Nat.mod_two_eq_zero_or_one a with ha | ha <;> rcases Nat.mod_two_eq_zero_or_one b with hb | hb <;> simp [ha, hb]
  · ac_rfl
  · ac_rfl
  · have : a / 2 ^^^ poly ^^^ (b / 2 ^^^ poly) = a / 2 ^^^ b / 2 ^^^ (poly ^^^ poly) := by ac_rfl
    rw [this]; simp
theorem step_xor (n : Nat) : ∀ a b : Nat, step n (a ^^^ b) = step n a ^^^ step n b := by
  induction n with
  | zero => intro a b; rfl
  | succ n ih => intro a b; simp only [step, bit_xor, ih]
theorem step_add (m n c : Nat) : step (m + n) c = step n (step m c) := by
  induction m generalizing c with
  | zero => simp [step]
  | succ m ih => rw [Nat.succ_add]; simp only [step, ih]
theorem bit_double (c : Nat) : bit (2 * c) = c := by
  unfold bit
  have : (2 * c) % 2 = 0 := by omega
  simp [this]
theorem step_shift (n c : Nat) : step n (2 ^ n * c) = c := by
  induction n generalizing c with
  | zero => simp [step]
  | succ n ih =>
    have : 2 ^ (n + 1) * c = 2 * (2 ^ n * c) := by rw [Nat.pow_succ]; ac_rfl
    rw [this]; simp only [step, bit_double, ih]
theorem step_small : ∀ r : Nat, r < 16 → step 4 r = tab.getD r 0 := by decide
theorem nib_eq (c : Nat) : step 4 c = nib c := by
  have h : c = (2 ^ 4 * (c / 16)) ^^^ (c % 16) := by
    have h1 : 2 ^ 4 * (c / 16) ||| c % 16 = 2 ^ 4 * (c / 16) + c % 16 := (Nat.two_pow_add_eq_or_of_lt (by omega) _).symm
    have h2 : (2 ^ 4 * (c / 16)) ^^^ (c % 16) = 2 ^ 4 * (c / 16) ||| c % 16 := by
      apply Nat.eq_of_testBit_eq
      intro i
      rw [Nat.testBit_xor, Nat.testBit_or]
      by_cases hi : i < 4
      · have : (2 ^ 4 * (c / 16)).testBit i = false := by
          rw [Nat.testBit_two_pow_mul]; simp; omega
        simp [this]
      · have : (c % 16).testBit i = false := by
          apply Nat.testBit_lt_two_pow
          have : 2 ^ 4 ≤ 2 ^ i := Nat.pow_le_pow_right (by decide) (by omega)
          omega
        simp [this]
    omega
  have h3 : step 4 c = step 4 (2 ^ 4 * (c / 16)) ^^^ step 4 (c % 16) := by
    rw [← step_xor, ← h]
  rw [h3, step_shift, step_small _ (by omega)]
  unfold nib
  ac_rfl
theorem bit_lt (c : Nat) (h : c < 4294967296) : bit c < 4294967296 := by
  unfold bit
  split
  · exact Nat.xor_lt_two_pow (n := 32) (by omega) (by unfold poly; omega)
  · omega
theorem step_lt (n : Nat) : ∀ c : Nat, c < 4294967296 → step n c < 4294967296 := by
  induction n with
  | zero => intro c h; exact h
  | succ n ih => intro c h; exact ih _ (bit_lt c h)
theorem nib_lt (c : Nat) (h : c < 4294967296) : nib c < 4294967296 := nib_eq c ▸ step_lt 4 c h
/-- a register fed with a byte -/
def feed (c : Nat) (b : UInt8) : Nat := nib (nib (c ^^^ b.toNat))
theorem feed_eq (c : Nat) (b : UInt8) : feed c b = step 8 (c ^^^ b.toNat) := by
  unfold feed
  rw [← nib_eq, ← nib_eq, ← step_add]
theorem byte_xor_lt (c : Nat) (b : UInt8) (h : c < 4294967296) : c ^^^ b.toNat < 4294967296 :=
  Nat.xor_lt_two_pow (n := 32) h (by have := b.toNat_lt; omega)
theorem feed_lt (c : Nat) (b : UInt8) (h : c < 4294967296) : feed c b < 4294967296 := nib_lt _ (nib_lt _ (byte_xor_lt c b h))
def run (c : Nat) (l : List UInt8) : Nat := l.foldl feed c
theorem run_lt (c : Nat) (l : List UInt8) (h : c < 4294967296) : run c l < 4294967296 := by
  induction l generalizing c with
  | nil => exact h
  | cons b l ih => exact ih _ (feed_lt c b h)
theorem run_snoc (c : Nat) (l : List UInt8) (b : UInt8) : run c (l ++ [b]) = feed (run c l) b := by simp [run]
theorem run_append (c : Nat) (l m : List UInt8) : run c (l ++ m) = run (run c l) m := by simp [run]
/-- the checksum -/
def crc (l : List UInt8) : Nat := 4294967295 - run 4294967295 l
theorem crc_lt (l : List UInt8) : crc l < 4294967296 := by unfold crc; omega
/-- the four bytes of a checksum, the lowest first -/
def le4 (c : Nat) : List UInt8 := [UInt8.ofNat c, UInt8.ofNat (c / 256), UInt8.ofNat (c / 65536), UInt8.ofNat (c / 16777216)]
/-- a string with its checksum -/
def sealed (l : List UInt8) : List UInt8 := l ++ le4 (crc l)
/-- the length in two bytes, the highest first -/
def head (n : Nat) : List UInt8 := [UInt8.ofNat (n / 256), UInt8.ofNat n]
/-- the record of a string -/
def record (l : List UInt8) : List UInt8 := sealed (head l.length ++ l)
/-- what Record returns -/
def recStr (l : List UInt8) : List UInt8 := if 4096 < l.length then [] else record l
def recErr (l : List UInt8) : Int := if 4096 < l.length then 3 else 0
theorem le4_length (c : Nat) : (le4 c).length = 4 := rfl
theorem sealed_length (l : List UInt8) : (sealed l).length = l.length + 4 := by simp [sealed, le4_length]
theorem record_length (l : List UInt8) : (record l).length = l.length + 6 := by simp [record, sealed_length, head]
theorem recStr_length (l : List UInt8) : (recStr l).length ≤ 4102 := by
  unfold recStr
  split
  · simp
  · rw [record_length]; omega
/-- the record at the beginning of a string: the string in it, the record's size, the error -/
def size2 (r : List UInt8) : Nat := (r.getD 0 0).toNat * 256 + (r.getD 1 0).toNat
def nextR (r : List UInt8) : List UInt8 × Nat × Int :=
  if r.length < 2 then ([], 0, 14) else
  if 4096 < size2 r then ([], 0, 13) else
  if r.length < size2 r + 6 then ([], 0, 14) else
  if sealed (r.take (size2 r + 2)) = r.take (size2 r + 6) then ((r.drop 2).take (size2 r), size2 r + 6, 0) else ([], 0, 13)
/-- the record at an offset -/
def next (l : List UInt8) (i : Int) : List UInt8 × Int × Int :=
  if i < 0 ∨ (l.length : Int) < i then ([], 0, 2) else
  let o := nextR (l.drop i.toNat)
  if o.2.2 = 0 then (o.1, i + o.2.1, 0) else ([], 0, o.2.2)
theorem next_out (l : List UInt8) (i : Int) (h : i < 0 ∨ (l.length : Int) < i) : next l i = ([], 0, 2) := by
  unfold next; rw [if_pos h]
theorem next_tail (l : List UInt8) (k : Nat) (hk : k ≤ l.length) : next l k = if (nextR (l.drop k)).2.2 = 0 then ((nextR (l.drop k)).1, (k : Int) + (nextR (l.drop k)).2.1, 0) else ([], 0, (nextR (l.drop k)).2.2) := by
  unfold next
  rw [if_neg (by omega), Int.toNat_natCast]
theorem next_bad (l : List UInt8) (k : Nat) (e : Int) (hk : k ≤ l.length) (h : nextR (l.drop k) = ([], 0, e)) (he : e ≠ 0) : next l k = ([], 0, e) := by
  unfold next
  rw [if_neg (by omega), Int.toNat_natCast, h]
  simp [he]
theorem next_good (l : List UInt8) (k n : Nat) (x : List UInt8) (hk : k ≤ l.length) (h : nextR (l.drop k) = (x, n, 0)) : next l k = (x, (k : Int) + n, 0) := by
  unfold next
  rw [if_neg (by omega), Int.toNat_natCast, h]
  simp
theorem nextR_short (r : List UInt8) (h : r.length < 2) : nextR r = ([], 0, 14) := by unfold nextR; rw [if_pos h]
theorem nextR_big (r : List UInt8) (h : 2 ≤ r.length) (hb : 4096 < size2 r) : nextR r = ([], 0, 13) := by
  unfold nextR; rw [if_neg (by omega), if_pos hb]
theorem nextR_cut (r : List UInt8) (h : 2 ≤ r.length) (hb : size2 r ≤ 4096) (hl : r.length < size2 r + 6) : nextR r = ([], 0, 14) := by
  unfold nextR; rw [if_neg (by omega), if_neg (by omega), if_pos hl]
theorem nextR_bad (r : List UInt8) (h : 2 ≤ r.length) (hb : size2 r ≤ 4096) (hl : size2 r + 6 ≤ r.length) (hs : sealed (r.take (size2 r + 2)) ≠ r.take (size2 r + 6)) : nextR r = ([], 0, 13) := by
  unfold nextR; rw [if_neg (by omega), if_neg (by omega), if_neg (by omega), if_neg hs]
theorem nextR_good (r : List UInt8) (h : 2 ≤ r.length) (hb : size2 r ≤ 4096) (hl : size2 r + 6 ≤ r.length) (hs : sealed (r.take (size2 r + 2)) = r.take (size2 r + 6)) :
    nextR r = ((r.drop 2).take (size2 r), size2 r + 6, 0) := by
  unfold nextR; rw [if_neg (by omega), if_neg (by omega), if_neg (by omega), if_pos hs]
end Go.Proofs.Ytlnbkljajocfoaa.Crc
