/- SortMath; KeyMath; ScanMath; KSortMath; NumMath; NumMath2: merged into one text: lemmas for the walk of the law. No condition. -/
import Derived.WalkKit
/- Sorting lists stably: by inserting one element after the other, and by merging halves: the same list. Plain lists. No condition. -/
namespace Go.Proofs.YtkekpiillbpciaaGreatDoor.SortMath

section
variable {α : Type} {gt : α → α → Bool}
/-- does one come after another: a strict weak order -/
structure Weak (gt : α → α → Bool) : Prop where
  asym : ∀ a b, gt a b = true → gt b a = false
  neg : ∀ a b c, gt a c = true → gt a b = true ∨ gt b c = true
/-- no element comes after a later one -/
def Srt (gt : α → α → Bool) (l : List α) : Prop := l.Pairwise fun a b => gt a b = false
/-- an element behind all that do not come after it -/
def ins (gt : α → α → Bool) (x : α) : List α → List α
  | [] => [x]
  | y :: r => if gt y x then x :: y :: r else y :: ins gt x r
def insAll (gt : α → α → Bool) (s l : List α) : List α := l.foldl (fun s x => ins gt x s) s
def isort (gt : α → α → Bool) (l : List α) : List α := insAll gt [] l
theorem insAll_snoc (s l : List α) (x : α) : insAll gt s (l ++ [x]) = ins gt x (insAll gt s l) := by simp [insAll]
theorem insAll_append (s l m : List α) : insAll gt s (l ++ m) = insAll gt (insAll gt s l) m := by simp [insAll]
theorem insAll_cons (s l : List α) (x : α) : insAll gt s (x :: l) = insAll gt (ins gt x s) l := rfl
theorem mem_ins (x y : α) : ∀ (l : List α), y ∈ ins gt x l ↔ y = x ∨ y ∈ l
  | [] => by simp [ins]
  | z :: r => by
    unfold ins
    split
    · simp
    · simp only [List.mem_cons, mem_ins x y r]
      constructor
      · rintro (h | h | h)
        · exact .inr (.inl h)
        · exact .inl h
        · exact .inr (.inr h)
      · rintro (h | h | h)
        · exact .inr (.inl h)
        · exact .inl h
        · exact .inr (.inr h)
theorem length_ins (x : α) : ∀ (l : List α), (ins gt x l).length = l.length + 1
  | [] => rfl
  | z :: r => by
    unfold ins
    split
    · rfl
    · simp [length_ins x r]
theorem Weak.trans (W : Weak gt) {a b c : α} (h1 : gt a b = false) (h2 : gt b c = false) : gt a c = false := by
  cases h : gt a c with
  | false => rfl
  | true =>
    rcases W.neg a b c h with h3 | h3
    · rw [h1] at h3; cases h3
    · rw [h2] at h3; cases h3
theorem Weak.far (W : Weak gt) {a b c : α} (h1 : gt b a = true) (h2 : gt b c = false) : gt c a = true := by
  cases h : gt c a with
  | true => rfl
  | false =>
    have := W.trans h2 h
    rw [h1] at this
    cases this
theorem srt_ins (W : Weak gt) (x : α) : ∀ (l : List α), Srt gt l → Srt gt (ins gt x l)
  | [], _ => by simp [ins, Srt]
  | y :: r, h => by
    have h' := List.pairwise_cons.1 h
    unfold ins
    split
    · rename_i hyx
      refine List.pairwise_cons.2 ⟨fun z hz => ?_, h⟩
      rcases List.mem_cons.1 hz with rfl | hz
      · exact W.asym _ _ hyx
      · exact W.trans (W.asym _ _ hyx) (h'.1 z hz)
    · rename_i hyx
      refine List.pairwise_cons.2 ⟨fun z hz => ?_, srt_ins W x r h'.2⟩
      rcases (mem_ins x z r).1 hz with rfl | hz
      · simpa using hyx
      · exact h'.1 z hz
theorem srt_insAll (W : Weak gt) : ∀ (l s : List α), Srt gt s → Srt gt (insAll gt s l)
  | [], _, h => h
  | x :: l, s, h => srt_insAll W l _ (srt_ins W x s h)
theorem srt_isort (W : Weak gt) (l : List α) : Srt gt (isort gt l) := srt_insAll W l [] List.Pairwise.nil
/-- two elements, one of which comes after the other, go in in any order -/
theorem ins_comm (W : Weak gt) {x y : α} (hyx : gt y x = true) : ∀ (l : List α), ins gt y (ins gt x l) = ins gt x (ins gt y l)
  | [] => by
    have := W.asym _ _ hyx
    simp [ins, hyx, this]
  | z :: r => by
    have hxy := W.asym _ _ hyx
    by_cases hzx : gt z x = true
    · by_cases hzy : gt z y = true
      · simp [ins, hzx, hzy, hxy, hyx]
      · simp [ins, hzx, hzy, hxy]
    · have hzy : gt z y = false := by
        cases h : gt z y with
        | false => rfl
        | true =>
          rcases W.neg z x y h with h1 | h1
          · exact absurd h1 hzx
          · rw [hxy] at h1; cases h1
      simp [ins, hzx, hzy, ins_comm W hyx r]
/-- an element goes in ahead of all that come after it, in any order -/
theorem insAll_ins_comm (W : Weak gt) {x : α} : ∀ (v s : List α), (∀ y ∈ v, gt y x = true) → insAll gt (ins gt x s) v = ins gt x (insAll gt s v)
  | [], _, _ => rfl
  | y :: v, s, h => by
    rw [insAll_cons, insAll_cons, ins_comm W (h y (by simp)), insAll_ins_comm W v _ fun z hz => h z (by simp [hz])]
theorem ins_split (x : α) : ∀ (l : List α), ∃ u v, l = u ++ v ∧ ins gt x l = u ++ x :: v ∧ (∀ y ∈ v.head?, gt y x = true)
  | [] => ⟨[], [], rfl, rfl, by simp⟩
  | y :: r => by
    unfold ins
    split
    · rename_i h
      exact ⟨[], y :: r, rfl, rfl, by simpa using h⟩
    · obtain ⟨u, v, h1, h2, h3⟩ := ins_split x r
      exact ⟨y :: u, v, by rw [h1]; rfl, by rw [h2]; rfl, h3⟩
theorem insAll_isort (W : Weak gt) (s : List α) : ∀ (l : List α), insAll gt s (isort gt l) = insAll gt s l := by
  intro l
  generalize hn : l.length = n
  induction n generalizing l with
  | zero =>
    have : l = [] := List.eq_nil_of_length_eq_zero hn
    subst this
    rfl
  | succ n ih =>
    obtain ⟨m, x, rfl⟩ : ∃ m x, l = m ++ [x] := by
      refine ⟨l.dropLast, l.getLast (by intro h; rw [h] at hn; cases hn), ?_⟩
      exact (List.dropLast_concat_getLast _).symm
    have hm : m.length = n := by simpa using hn
    have e1 : isort gt (m ++ [x]) = ins gt x (isort gt m) := insAll_snoc [] m x
    rw [e1, insAll_snoc, ← ih m hm]
    obtain ⟨u, v, h1, h2, h3⟩ := ins_split (gt := gt) x (isort gt m)
    have hs := srt_isort W m
    rw [h1] at hs
    have hv : ∀ y ∈ v, gt y x = true := by
      cases v with
      | nil => intro y hy; cases hy
      | cons z v =>
        have hz : gt z x = true := h3 z (by simp)
        have h4 := (List.pairwise_cons.1 (List.pairwise_append.1 hs).2.1).1
        intro y hy
        rcases List.mem_cons.1 hy with rfl | hy
        · exact hz
        · exact W.far hz (h4 y hy)
    rw [h2, insAll_append, insAll_cons, insAll_ins_comm W v _ hv, ← insAll_append, ← h1]
/-- merging: the first of a second list only where the first of the first comes after it -/
def mrg (gt : α → α → Bool) : Nat → List α → List α → List α
  | 0, a, b => a ++ b
  | _ + 1, [], b => b
  | _ + 1, a, [] => a
  | n + 1, x :: a, y :: b => if gt x y then y :: mrg gt n (x :: a) b else x :: mrg gt n a (y :: b)
theorem insAll_above (x : α) : ∀ (b a : List α), (∀ y ∈ b, gt x y = false) → insAll gt (x :: a) b = x :: insAll gt a b
  | [], _, _ => rfl
  | y :: b, a, h => by
    rw [insAll_cons, insAll_cons]
    have : ins gt y (x :: a) = x :: ins gt y a := by simp [ins, h y (by simp)]
    rw [this]
    exact insAll_above x b _ fun z hz => h z (by simp [hz])
theorem mrg_eq (W : Weak gt) : ∀ (n : Nat) (a b : List α), a.length + b.length ≤ n → Srt gt a → Srt gt b → mrg gt n a b = insAll gt a b
  | 0, a, b, h, _, _ => by
    have ha : a = [] := List.eq_nil_of_length_eq_zero (by omega)
    have hb : b = [] := List.eq_nil_of_length_eq_zero (by omega)
    subst ha; subst hb; rfl
  | n + 1, [], b, _, _, hb => by
    show b = insAll gt [] b
    have key : ∀ (b s : List α), Srt gt (s ++ b) → insAll gt s b = s ++ b := by
      intro b
      induction b with
      | nil => intro s _; simp [insAll]
      | cons y b ih =>
        intro s hs
        have hy : ins gt y s = s ++ [y] := by
          have hall : ∀ z ∈ s, gt z y = false := fun z hz => (List.pairwise_append.1 hs).2.2 z hz y (by simp)
          clear hs ih
          induction s with
          | nil => rfl
          | cons z s ih2 =>
            simp only [ins, hall z (by simp), Bool.false_eq_true, if_false, List.cons_append]
            rw [ih2 fun u hu => hall u (by simp [hu])]
        rw [insAll_cons, hy, ih (s ++ [y]) (by simpa using hs)]
        simp
    exact (key b [] (by simpa using hb)).symm
  | n + 1, x :: a, [], _, _, _ => rfl
  | n + 1, x :: a, y :: b, h, ha, hb => by
    simp only [List.length_cons] at h
    have hb' := List.pairwise_cons.1 hb
    have ha' := List.pairwise_cons.1 ha
    unfold mrg
    split
    · rename_i hxy
      rw [mrg_eq W n (x :: a) b (by simp only [List.length_cons]; omega) ha hb'.2, insAll_cons]
      have e : ins gt y (x :: a) = y :: x :: a := by simp [ins, hxy]
      rw [e]
      exact (insAll_above y b _ fun z hz => hb'.1 z hz).symm
    · rename_i hxy
      have hxy : gt x y = false := by simpa using hxy
      rw [mrg_eq W n a (y :: b) (by simp only [List.length_cons]; omega) ha'.2 hb]
      exact (insAll_above x (y :: b) a fun z hz => by
        rcases List.mem_cons.1 hz with rfl | hz
        · exact hxy
        · exact W.trans hxy (hb'.1 z hz)).symm
/-- sorting by halves -/
def msort (gt : α → α → Bool) : Nat → List α → List α
  | 0, l => l
  | n + 1, l => if l.length < 2 then l else mrg gt l.length (msort gt n (l.take (l.length / 2))) (msort gt n (l.drop (l.length / 2)))
theorem msort_eq (W : Weak gt) : ∀ (n : Nat) (l : List α), l.length ≤ n → msort gt n l = isort gt l ∧ (msort gt n l).length = l.length
  | 0, l, h => by
    have : l = [] := List.eq_nil_of_length_eq_zero (by omega)
    subst this
    exact ⟨rfl, rfl⟩
  | n + 1, l, h => by
    have hlen : ∀ (l s : List α), (insAll gt s l).length = s.length + l.length := by
      intro l
      induction l with
      | nil => intro s; simp [insAll]
      | cons x l ih => intro s; rw [insAll_cons, ih, length_ins]; simp; omega
    unfold msort
    split
    · rename_i h2
      match l, h2 with
      | [], _ => exact ⟨rfl, rfl⟩
      | [x], _ => exact ⟨rfl, rfl⟩
    · rename_i h2
      obtain ⟨e1, l1⟩ := msort_eq W n (l.take (l.length / 2)) (by rw [List.length_take]; omega)
      obtain ⟨e2, l2⟩ := msort_eq W n (l.drop (l.length / 2)) (by rw [List.length_drop]; omega)
      have hm : mrg gt l.length (msort gt n (l.take (l.length / 2))) (msort gt n (l.drop (l.length / 2))) = isort gt l := by
        rw [e1, e2, mrg_eq W _ _ _ (by rw [← e1, ← e2, l1, l2, List.length_take, List.length_drop]; omega) (srt_isort W _) (srt_isort W _), insAll_isort W]
        show insAll gt (insAll gt [] _) _ = insAll gt [] l
        rw [← insAll_append, List.take_append_drop]
      exact ⟨hm, by rw [hm]; show (insAll gt [] l).length = _; rw [hlen]; simp⟩
end
end Go.Proofs.YtkekpiillbpciaaGreatDoor.SortMath

/- Comparing lines by a sort specification, as plain lists: the order is a total preorder. No condition. -/
namespace Go.Proofs.YtkekpiillbpciaaGreatDoor.KeyMath

abbrev Str := List UInt8
/-- strings by their bytes -/
def cmp : Str → Str → Int
  | [], [] => 0
  | [], _ :: _ => -1
  | _ :: _, [] => 1
  | a :: x, b :: y => if a < b then -1 else if b < a then 1 else cmp x y
def isBlank (b : UInt8) : Bool := b == 32 || b == 9
def digit (b : UInt8) : Bool := 48 ≤ b && b ≤ 57
def counts (b : UInt8) : Bool := isBlank b || digit b || (97 ≤ b && b ≤ 122) || (65 ≤ b && b ≤ 90)
def upc (b : UInt8) : UInt8 := if 97 ≤ b && b ≤ 122 then b - 32 else b
def has (f : Nat) (flags : Int) : Bool := flags.toNat / f % 2 == 1
/-- the number of digits, of four digits behind a point -/
def numv (w : Str) : Nat := w.foldl (fun d b => 10 * d + (b.toNat - 48)) 0
def dig (f : Str) (i : Nat) : Nat := (f[i]?.map fun b => b.toNat - 48).getD 0
def fracv (f : Str) : Nat := 1000 * dig f 0 + 100 * dig f 1 + 10 * dig f 2 + dig f 3
/-- where a run of bytes of a kind ends that begins at a place -/
def spanEnd (p : UInt8 → Bool) (l : Str) (i : Nat) : Nat := i + ((l.drop i).takeWhile p).length
/-- the number at the beginning of a string -/
def num (s : Str) : Int :=
  let a := spanEnd isBlank s 0
  let b := if s[a]? = some 45 ∨ s[a]? = some 43 then a + 1 else a
  let e := spanEnd digit s b
  let f := if s[e]? = some 46 then (s.take (spanEnd digit s (e + 1))).drop (e + 1) else []
  let d := min 10000000000000 (numv ((s.take e).drop b) * 10000 + fracv f)
  if s[a]? = some 45 then -(d : Int) else (d : Int)
def sgn (a b : Int) : Int := if a < b then -1 else if b < a then 1 else 0
def shape (flags : Int) (s : Str) : Str :=
  let s := if has 8 flags then s.dropWhile isBlank else s
  let s := if has 16 flags then s.filter counts else s
  if has 4 flags then s.map upc else s
def parts (flags : Int) (x y : Str) : Int :=
  let c := if has 1 flags then sgn (num x) (num y) else cmp (shape flags x) (shape flags y)
  if has 2 flags then -c else c
/-- the fields of a line between separators, from a place on -/
def fieldsC (c : UInt8) : Str → Nat → Nat → List (Nat × Nat)
  | [], a, t => [(a, t)]
  | b :: r, a, t => if b = c then (a, t) :: fieldsC c r (t + 1) (t + 1) else fieldsC c r a (t + 1)
/-- the fields of a line that begin with their blanks -/
def fieldsB : UInt8 → Str → Nat → Nat → List (Nat × Nat)
  | _, [], a, t => [(a, t)]
  | p, b :: r, a, t => if isBlank b && !isBlank p then (a, t) :: fieldsB b r t (t + 1) else fieldsB b r a (t + 1)
/-- the fields from the beginning of one of them on -/
def fromB : Str → Nat → List (Nat × Nat)
  | [], _ => []
  | b :: r, a => fieldsB b r a (a + 1)
def fields (l : Str) (sep : Int) : List (Nat × Nat) := if 0 ≤ sep then fieldsC (UInt8.ofNat sep.toNat) l 0 0 else fromB l 0
structure Key where
  ff : Int
  fc : Int
  tf : Int
  tc : Int
  fl : Int
deriving Inhabited
structure SortSpec where
  keys : List Key
  sep : Int
  fl : Int
  uniq : Bool
  stable : Bool
/-- a number that a word of 64 bits holds -/
def W64 (z : Int) : Prop := -9223372036854775808 ≤ z ∧ z ≤ 9223372036854775807
def Key.fits (k : Key) : Prop := W64 k.ff ∧ W64 k.fc ∧ W64 k.tf ∧ W64 k.tc ∧ W64 k.fl
def Key.ok (k : Key) : Bool := decide (1 ≤ k.ff ∧ 1 ≤ k.fc ∧ 0 ≤ k.tf ∧ 0 ≤ k.tc ∧ (k.tf = 0 → k.tc = 0) ∧ 0 ≤ k.fl ∧ k.fl ≤ 31)
/-- the error of a specification -/
def check (p : SortSpec) : Int :=
  if 8 < p.keys.length then 3 else if p.sep < -1 ∨ 255 < p.sep ∨ p.sep = 10 ∨ p.fl < 0 ∨ 31 < p.fl then 2 else if p.keys.all Key.ok then 0 else 2
def cutTo (l : Str) (k : Key) (sep : Int) : Nat :=
  if k.tf = 0 then l.length else match (fields l sep)[k.tf.toNat - 1]? with
    | none => l.length
    | some y => if k.tc = 0 then y.2 else y.1 + min k.tc.toNat (y.2 - y.1)
def extract (l : Str) (k : Key) (sep : Int) : Str := match (fields l sep)[k.ff.toNat - 1]? with
  | none => []
  | some x =>
    let a := x.1 + min (k.fc.toNat - 1) (x.2 - x.1)
    (l.drop a).take (cutTo l k sep - a)
def flagsOf (p : SortSpec) (k : Key) : Int := if k.fl = 0 then p.fl else k.fl
def byKeys (p : SortSpec) (a b : Str) : List Key → Int
  | [] => 0
  | k :: r => let c := parts (flagsOf p k) (extract a k p.sep) (extract b k p.sep); if c ≠ 0 then c else byKeys p a b r
def compare (p : SortSpec) (a b : Str) : Int := if p.keys = [] then parts p.fl a b else byKeys p a b p.keys
def order (p : SortSpec) (a b : Str) : Int :=
  let c := compare p a b
  if c ≠ 0 ∨ p.stable = true ∨ p.uniq = true then c else if has 2 p.fl then -cmp a b else cmp a b

/-- a comparison: a total preorder -/
structure Cmp {α : Type} (f : α → α → Int) : Prop where
  anti : ∀ a b, f b a = -f a b
  trans : ∀ a b c, f a b ≤ 0 → f b c ≤ 0 → f a c ≤ 0
theorem Cmp.neg {α : Type} {f : α → α → Int} (h : Cmp f) : Cmp fun a b => -f a b := by
  refine ⟨fun a b => by rw [h.anti a b], fun a b c h1 h2 => ?_⟩
  have e1 := h.anti a b
  have e2 := h.anti b c
  have e3 := h.anti a c
  have := h.trans c b a (by omega) (by omega)
  omega
theorem Cmp.pull {α β : Type} {f : β → β → Int} (h : Cmp f) (g : α → β) : Cmp fun a b => f (g a) (g b) :=
  ⟨fun a b => h.anti _ _, fun a b c => h.trans _ _ _⟩
theorem Cmp.lex {α : Type} {f g : α → α → Int} (hf : Cmp f) (hg : Cmp g) : Cmp fun a b => if f a b ≠ 0 then f a b else g a b := by
  refine ⟨fun a b => ?_, fun a b c h1 h2 => ?_⟩
  · have e1 := hf.anti a b
    have e2 := hg.anti a b
    show (if f b a ≠ 0 then f b a else g b a) = -(if f a b ≠ 0 then f a b else g a b)
    by_cases h : f a b = 0
    · rw [if_neg (by omega), if_neg (by omega), e2]
    · rw [if_pos (by omega), if_pos (by omega), e1]
  · have h1 : (if f a b ≠ 0 then f a b else g a b) ≤ 0 := h1
    have h2 : (if f b c ≠ 0 then f b c else g b c) ≤ 0 := h2
    show (if f a c ≠ 0 then f a c else g a c) ≤ 0
    have fab : f a b ≤ 0 := by
      by_cases h : f a b = 0
      · omega
      · rw [if_pos h] at h1; exact h1
    have fbc : f b c ≤ 0 := by
      by_cases h : f b c = 0
      · omega
      · rw [if_pos h] at h2; exact h2
    have fac := hf.trans a b c fab fbc
    by_cases h : f a c = 0
    · have e3 := hf.anti a c
      have e2 := hf.anti b c
      have e1 := hf.anti a b
      have k1 := hf.trans c a b (by omega) fab
      have k2 := hf.trans b c a fbc (by omega)
      have z1 : f a b = 0 := by omega
      have z2 : f b c = 0 := by omega
      rw [if_neg (by omega)] at h1 h2
      rw [if_neg (by omega)]
      exact hg.trans a b c h1 h2
    · rw [if_pos h]; exact fac
theorem cmp_anti : ∀ (a b : Str), cmp b a = -cmp a b
  | [], [] => rfl
  | [], _ :: _ => rfl
  | _ :: _, [] => rfl
  | a :: x, b :: y => by
    have ih := cmp_anti x y
    unfold cmp
    by_cases h1 : a < b
    · have h2 : ¬ b < a := by
        intro h
        have := UInt8.lt_iff_toNat_lt.1 h1
        have := UInt8.lt_iff_toNat_lt.1 h
        omega
      rw [if_neg h2, if_pos h1, if_pos h1]
      rfl
    · by_cases h2 : b < a
      · rw [if_pos h2, if_neg h1, if_pos h2]
      · rw [if_neg h2, if_neg h1, if_neg h1, if_neg h2, ih]
theorem cmp_trans : ∀ (a b c : Str), cmp a b ≤ 0 → cmp b c ≤ 0 → cmp a c ≤ 0
  | [], _, [], _, _ => Int.le_refl _
  | [], _, _ :: _, _, _ => by unfold cmp; decide
  | _ :: _, [], _, h, _ => by unfold cmp at h; omega
  | _ :: _, _ :: _, [], _, h => by unfold cmp at h; omega
  | a :: x, b :: y, c :: z, h1, h2 => by
    have ih := cmp_trans x y z
    unfold cmp at h1 h2 ⊢
    simp only [UInt8.lt_iff_toNat_lt] at h1 h2 ⊢
    by_cases p1 : a.toNat < b.toNat
    · by_cases p2 : b.toNat < c.toNat
      · rw [if_pos (by omega)]; omega
      · rw [if_neg p2] at h2
        by_cases p3 : c.toNat < b.toNat
        · rw [if_pos p3] at h2; omega
        · rw [if_pos (by omega)]; omega
    · rw [if_neg p1] at h1
      by_cases p4 : b.toNat < a.toNat
      · rw [if_pos p4] at h1; omega
      · rw [if_neg p4] at h1
        by_cases p2 : b.toNat < c.toNat
        · rw [if_pos (by omega)]; omega
        · rw [if_neg p2] at h2
          by_cases p3 : c.toNat < b.toNat
          · rw [if_pos p3] at h2; omega
          · rw [if_neg p3] at h2
            rw [if_neg (by omega), if_neg (by omega)]
            exact ih h1 h2
theorem cmp_cmp : Cmp cmp := ⟨cmp_anti, cmp_trans⟩
theorem sgn_cmp : Cmp sgn := by
  refine ⟨fun a b => ?_, fun a b c h1 h2 => ?_⟩
  · unfold sgn
    by_cases h1 : a < b
    · rw [if_neg (by omega), if_pos h1, if_pos h1]; rfl
    · by_cases h2 : b < a
      · rw [if_pos h2, if_neg h1, if_pos h2]
      · rw [if_neg h2, if_neg h1, if_neg h1, if_neg h2]; rfl
  · have k : ∀ a b, sgn a b ≤ 0 ↔ a ≤ b := by
      intro a b
      unfold sgn
      by_cases h1 : a < b
      · rw [if_pos h1]; constructor <;> intro <;> omega
      · rw [if_neg h1]
        by_cases h2 : b < a
        · rw [if_pos h2]; constructor <;> intro <;> omega
        · rw [if_neg h2]; constructor <;> intro <;> omega
    rw [k] at h1 h2 ⊢
    omega
theorem parts_cmp (flags : Int) : Cmp (parts flags) := by
  have h0 : Cmp fun x y => if has 1 flags then sgn (num x) (num y) else cmp (shape flags x) (shape flags y) := by
    by_cases h : has 1 flags = true
    · simp only [h, if_true]; exact sgn_cmp.pull num
    · simp only [h, if_false]; exact cmp_cmp.pull (shape flags)
  unfold parts
  by_cases h : has 2 flags = true
  · simp only [h, if_true]; exact h0.neg
  · simp only [h, if_false]; exact h0
theorem zero_cmp {α : Type} : Cmp fun _ _ : α => (0 : Int) := ⟨fun _ _ => rfl, fun _ _ _ _ _ => Int.le_refl _⟩
theorem byKeys_cmp (p : SortSpec) : ∀ (ks : List Key), Cmp fun a b => byKeys p a b ks
  | [] => zero_cmp
  | k :: r => Cmp.lex ((parts_cmp (flagsOf p k)).pull fun a => extract a k p.sep) (byKeys_cmp p r)
theorem compare_cmp (p : SortSpec) : Cmp (compare p) := by
  unfold compare
  by_cases h : p.keys = []
  · simp only [h, if_true]; exact parts_cmp _
  · simp only [h, if_false]; exact byKeys_cmp p _
theorem order_cmp (p : SortSpec) : Cmp (order p) := by
  unfold order
  by_cases h : p.stable = true ∨ p.uniq = true
  · simp only [h, or_true, if_true]; exact compare_cmp p
  · simp only [h, or_false]
    have h2 : Cmp fun a b => if has 2 p.fl then -cmp a b else cmp a b := by
      by_cases h3 : has 2 p.fl = true
      · simp only [h3, if_true]; exact cmp_cmp.neg
      · simp only [h3, if_false]; exact cmp_cmp
    exact (compare_cmp p).lex h2
/-- does a line come after another -/
def gt (p : SortSpec) (a b : Str) : Bool := decide (0 < order p a b)
theorem gt_weak (p : SortSpec) : SortMath.Weak (gt p) := by
  have h := order_cmp p
  refine ⟨fun a b h1 => ?_, fun a b c h1 => ?_⟩
  · have := h.anti a b
    unfold gt at h1 ⊢
    have h1 := of_decide_eq_true h1
    exact decide_eq_false (by omega)
  · unfold gt at h1 ⊢
    have h1 := of_decide_eq_true h1
    by_cases h2 : 0 < order p a b
    · exact .inl (decide_eq_true h2)
    · refine .inr (decide_eq_true ?_)
      refine Decidable.byContradiction fun h3 => ?_
      have := h.trans a b c (by omega) (by omega)
      omega
/-- each line that is not equal to the one that was kept last -/
def onceTo (p : SortSpec) : List Str → List Str → List Str
  | out, [] => out
  | out, x :: r => match out.getLast? with
    | none => onceTo p [x] r
    | some y => if compare p y x = 0 then onceTo p out r else onceTo p (out ++ [x]) r
def sort (p : SortSpec) (l : List Str) : List Str :=
  let s := SortMath.isort (gt p) l
  if p.uniq then onceTo p [] s else s
/-- may a line not follow another -/
def bad (p : SortSpec) (a b : Str) : Bool := decide (0 < order p a b ∨ p.uniq = true ∧ order p a b = 0)
/-- the least number below n for which something holds, or -1 -/
def firstFrom (f : Nat → Bool) : Nat → Nat → Int
  | 0, _ => -1
  | n + 1, i => if f i then (i : Int) else firstFrom f n (i + 1)
def firstAt (f : Nat → Bool) (n : Nat) : Int := firstFrom f n 0
theorem firstFrom_skip (f : Nat → Bool) : ∀ (k n i : Nat), (∀ j, j < k → f (i + j) = false) → firstFrom f (k + n) i = firstFrom f n (i + k)
  | 0, n, i, _ => by rw [Nat.zero_add, Nat.add_zero]
  | k + 1, n, i, h => by
    rw [show k + 1 + n = (k + n) + 1 from by omega, firstFrom, if_neg (by rw [show f i = false from h 0 (by omega)]; simp)]
    rw [firstFrom_skip f k n (i + 1) fun j hj => by rw [show i + 1 + j = i + (j + 1) from by omega]; exact h (j + 1) (by omega)]
    rw [show i + 1 + k = i + (k + 1) from by omega]
theorem first_hit {f : Nat → Bool} {n i : Nat} (h : ∀ j, j < i → f j = false) (hi : i < n) (hf : f i = true) : firstAt f n = (i : Int) := by
  unfold firstAt
  obtain ⟨m, rfl⟩ : ∃ m, n = i + (m + 1) := ⟨n - i - 1, by omega⟩
  rw [firstFrom_skip f i (m + 1) 0 (fun j hj => by rw [Nat.zero_add]; exact h j hj), Nat.zero_add, firstFrom, if_pos hf]
theorem first_none {f : Nat → Bool} {n : Nat} (h : ∀ j, j < n → f j = false) : firstAt f n = -1 := by
  unfold firstAt
  have := firstFrom_skip f n 0 0 (fun j hj => by rw [Nat.zero_add]; exact h j hj)
  rw [Nat.add_zero] at this
  rw [this]
  rfl
theorem first_range (f : Nat → Bool) (n : Nat) : firstAt f n = -1 ∨ ∃ i, i < n ∧ firstAt f n = (i : Int) := by
  unfold firstAt
  have key : ∀ (n i : Nat), firstFrom f n i = -1 ∨ ∃ j, j < i + n ∧ firstFrom f n i = (j : Int) := by
    intro n
    induction n with
    | zero => intro i; exact .inl rfl
    | succ n ih =>
      intro i
      unfold firstFrom
      split
      · exact .inr ⟨i, by omega, rfl⟩
      · rcases ih (i + 1) with h | ⟨j, h1, h2⟩
        · exact .inl h
        · exact .inr ⟨j, by omega, h2⟩
  rcases key n 0 with h | ⟨j, h1, h2⟩
  · exact .inl h
  · exact .inr ⟨j, by omega, h2⟩
def at2 (f : Str → Str → Bool) (a b : Option Str) : Bool := match a, b with
  | some x, some y => f x y
  | _, _ => false
def unsorted (p : SortSpec) (l : List Str) : Int := firstAt (fun i => decide (0 < i) && at2 (bad p) l[i - 1]? l[i]?) l.length
def extra (l o : List Str) : Int := firstAt (fun k => match l[k]? with | none => false | some s => decide (o.count s < (l.take (k + 1)).count s)) l.length
def lost (p : SortSpec) (l o : List Str) : Int := firstAt (fun k => match l[k]? with | none => false | some s => !(o.any fun t => compare p s t == 0)) l.length
def differAt (a b : List Str) : Int := firstAt (fun i => at2 (fun x y => decide (x ≠ y)) a[i]? b[i]?) (min a.length b.length)
def differ (a b : List Str) : Int := if 0 ≤ differAt a b then differAt a b else if a.length = b.length then -1 else (min a.length b.length : Nat)
def noted (r : List (Int × Int)) (kind index : Int) : List (Int × Int) := if index < 0 then r else r ++ [(kind, index)]
def missing (p : SortSpec) (l o : List Str) : Int := if p.uniq then lost p l o else extra l o
def sorted (p : SortSpec) (l o : List Str) : List (Int × Int) :=
  let r := noted (noted (noted [] 2 (unsorted p o)) 3 (extra o l)) 4 (missing p l o)
  if r = [] then noted r 5 (differ o (sort p l)) else r
end Go.Proofs.YtkekpiillbpciaaGreatDoor.KeyMath

/- Runs of bytes, the fields of a line, and comparing bytes, step by step. Plain lists. No condition. -/
namespace Go.Proofs.YtkekpiillbpciaaGreatDoor.ScanMath
open KeyMath

theorem drop_cons {α : Type} {l : List α} {i : Nat} {x : α} (h : l[i]? = some x) : l.drop i = x :: l.drop (i + 1) := by
  obtain ⟨hi, rfl⟩ := List.getElem?_eq_some_iff.1 h
  exact List.drop_eq_getElem_cons hi
theorem span_go {p : UInt8 → Bool} {l : Str} {i : Nat} {x : UInt8} (h : l[i]? = some x) (hp : p x = true) : spanEnd p l i = spanEnd p l (i + 1) := by
  unfold spanEnd
  rw [drop_cons h, List.takeWhile_cons, if_pos hp, List.length_cons]
  omega
theorem span_stop {p : UInt8 → Bool} {l : Str} {i : Nat} (h : ∀ x, l[i]? = some x → p x = false) : spanEnd p l i = i := by
  unfold spanEnd
  cases hc : l[i]? with
  | none =>
    rw [List.drop_eq_nil_of_le (List.getElem?_eq_none_iff.1 hc)]
    rfl
  | some x =>
    rw [drop_cons hc, List.takeWhile_cons, if_neg (by rw [h x hc]; simp)]
    rfl
theorem span_le {p : UInt8 → Bool} {l : Str} {i : Nat} (h : i ≤ l.length) : spanEnd p l i ≤ l.length := by
  unfold spanEnd
  have := (List.takeWhile_prefix p (l := l.drop i)).length_le
  rw [List.length_drop] at this
  omega
theorem span_ge {p : UInt8 → Bool} {l : Str} {i : Nat} : i ≤ spanEnd p l i := Nat.le_add_right _ _
theorem span_drop {p : UInt8 → Bool} {l : Str} {i j : Nat} : spanEnd p (l.drop i) j + i = spanEnd p l (i + j) := by
  unfold spanEnd
  rw [List.drop_drop]
  omega
theorem span_end {p : UInt8 → Bool} {l : Str} {i : Nat} {x : UInt8} (h : l[spanEnd p l i]? = some x) : p x = false := by
  generalize hn : l.length - i = n
  induction n generalizing i with
  | zero =>
    have : l.length ≤ spanEnd p l i := Nat.le_trans (by omega) span_ge
    rw [List.getElem?_eq_none_iff.2 this] at h
    cases h
  | succ n ih =>
    obtain ⟨y, hy⟩ : ∃ y, l[i]? = some y := ⟨_, List.getElem?_eq_getElem (by omega)⟩
    cases hp : p y with
    | true => rw [span_go hy hp] at h; exact ih h (by omega)
    | false =>
      have e : spanEnd p l i = i := span_stop fun z hz => by rw [hy] at hz; cases hz; exact hp
      rw [e, hy] at h
      cases h
      exact hp

/-- between separators -/
theorem fieldsC_none (c : UInt8) : ∀ (u : Str) (a t : Nat), c ∉ u → fieldsC c u a t = [(a, t + u.length)]
  | [], a, t, _ => rfl
  | b :: r, a, t, h => by
    simp only [List.mem_cons, not_or] at h
    unfold fieldsC
    rw [if_neg (Ne.symm h.1), fieldsC_none c r a (t + 1) h.2, List.length_cons]
    congr 2
    omega
theorem fieldsC_hit (c : UInt8) : ∀ (u v : Str) (a t : Nat), c ∉ u → fieldsC c (u ++ c :: v) a t = (a, t + u.length) :: fieldsC c v (t + u.length + 1) (t + u.length + 1)
  | [], v, a, t, _ => by simp [fieldsC]
  | b :: r, v, a, t, h => by
    simp only [List.mem_cons, not_or] at h
    rw [List.cons_append, fieldsC, if_neg (Ne.symm h.1), fieldsC_hit c r v a (t + 1) h.2, List.length_cons]
    have : t + 1 + r.length = t + (r.length + 1) := by omega
    rw [this]
theorem fieldsC_length (c : UInt8) : ∀ (l : Str) (a t : Nat), 1 ≤ (fieldsC c l a t).length ∧ (fieldsC c l a t).length ≤ l.length + 1
  | [], _, _ => by simp [fieldsC]
  | b :: r, a, t => by
    unfold fieldsC
    split
    · have := fieldsC_length c r (t + 1) (t + 1)
      simp only [List.length_cons]
      omega
    · have := fieldsC_length c r a (t + 1)
      simp only [List.length_cons]
      omega
/-- with blanks -/
theorem fieldsB_word (r : Str) : ∀ (p : UInt8) (a t : Nat), isBlank p = false → fieldsB p r a t = (a, t + (r.takeWhile fun b => !isBlank b).length) :: fromB (r.dropWhile fun b => !isBlank b) (t + (r.takeWhile fun b => !isBlank b).length) := by
  induction r with
  | nil => intro p a t _; rfl
  | cons b r ih =>
    intro p a t hp
    cases hb : isBlank b with
    | true => simp [fieldsB, hb, hp, List.takeWhile_cons, List.dropWhile_cons, fromB]
    | false =>
      simp only [fieldsB, hb, Bool.false_and, Bool.false_eq_true, if_false, List.takeWhile_cons, List.dropWhile_cons, Bool.not_false, if_true, List.length_cons]
      rw [ih b a (t + 1) hb, show t + 1 + (r.takeWhile fun b => !isBlank b).length = t + ((r.takeWhile fun b => !isBlank b).length + 1) from by omega]
theorem fieldsB_blanks (r : Str) : ∀ (p : UInt8) (a t : Nat), isBlank p = true → fieldsB p r a t =
    (a, t + (r.takeWhile isBlank).length + ((r.dropWhile isBlank).takeWhile fun b => !isBlank b).length) :: fromB ((r.dropWhile isBlank).dropWhile fun b => !isBlank b) (t + (r.takeWhile isBlank).length + ((r.dropWhile isBlank).takeWhile fun b => !isBlank b).length) := by
  induction r with
  | nil => intro p a t _; rfl
  | cons b r ih =>
    intro p a t hp
    cases hb : isBlank b with
    | true =>
      simp only [fieldsB, hb, hp, Bool.not_true, Bool.and_false, Bool.false_eq_true, if_false, List.takeWhile_cons, List.dropWhile_cons, if_true, List.length_cons]
      rw [ih b a (t + 1) hb, show t + 1 + (r.takeWhile isBlank).length = t + ((r.takeWhile isBlank).length + 1) from by omega]
    | false =>
      simp only [fieldsB, hb, Bool.false_and, Bool.false_eq_true, if_false, List.takeWhile_cons, List.dropWhile_cons, List.length_nil, Nat.add_zero, Bool.not_false, if_true, List.length_cons]
      rw [fieldsB_word r b a (t + 1) hb, show t + 1 + (r.takeWhile fun b => !isBlank b).length = t + ((r.takeWhile fun b => !isBlank b).length + 1) from by omega]
theorem dropWhile_drop (p : UInt8 → Bool) (l : Str) : l.dropWhile p = l.drop (l.takeWhile p).length := by
  induction l with
  | nil => rfl
  | cons b r ih =>
    rw [List.dropWhile_cons, List.takeWhile_cons]
    split
    · rw [ih]; rfl
    · rfl
/-- the next field with blanks: to the end of the blanks, and then of what is not isBlank -/
theorem fromB_step (l : Str) (a : Nat) (h : a < l.length) :
    fromB (l.drop a) a = (a, spanEnd (fun b => !isBlank b) l (spanEnd isBlank l a)) :: fromB (l.drop (spanEnd (fun b => !isBlank b) l (spanEnd isBlank l a))) (spanEnd (fun b => !isBlank b) l (spanEnd isBlank l a)) := by
  obtain ⟨x, hx⟩ : ∃ x, l[a]? = some x := ⟨_, List.getElem?_eq_getElem h⟩
  have hd := drop_cons hx
  rw [hd]
  show fieldsB x (l.drop (a + 1)) a (a + 1) = _
  cases hb : isBlank x with
  | true =>
    rw [fieldsB_blanks _ x a (a + 1) hb, span_go hx hb]
    have e1 : a + 1 + ((l.drop (a + 1)).takeWhile isBlank).length = spanEnd isBlank l (a + 1) := rfl
    rw [e1, dropWhile_drop, List.drop_drop, e1]
    have e2 : spanEnd isBlank l (a + 1) + ((l.drop (spanEnd isBlank l (a + 1))).takeWhile fun b => !isBlank b).length = spanEnd (fun b => !isBlank b) l (spanEnd isBlank l (a + 1)) := rfl
    rw [dropWhile_drop, List.drop_drop, e2]
  | false =>
    rw [fieldsB_word _ x a (a + 1) hb, span_stop (p := isBlank) (i := a) (fun z hz => by rw [hx] at hz; cases hz; exact hb), span_go hx (by simp [hb])]
    have e2 : a + 1 + ((l.drop (a + 1)).takeWhile fun b => !isBlank b).length = spanEnd (fun b => !isBlank b) l (a + 1) := rfl
    rw [dropWhile_drop, List.drop_drop, e2]
theorem span_more (l : Str) (a : Nat) (h : a < l.length) : a < spanEnd (fun b => !isBlank b) l (spanEnd isBlank l a) := by
  obtain ⟨x, hx⟩ : ∃ x, l[a]? = some x := ⟨_, List.getElem?_eq_getElem h⟩
  cases hb : isBlank x with
  | true =>
    have := span_ge (p := isBlank) (l := l) (i := a + 1)
    have := span_ge (p := fun b => !isBlank b) (l := l) (i := spanEnd isBlank l a)
    rw [span_go hx hb] at *
    omega
  | false =>
    rw [span_stop (p := isBlank) (i := a) (fun z hz => by rw [hx] at hz; cases hz; exact hb), span_go hx (by simp [hb])]
    exact Nat.lt_of_lt_of_le (Nat.lt_succ_self a) span_ge
/-- the spans of fields lie in the line -/
theorem fieldsC_in (c : UInt8) : ∀ (l : Str) (a t : Nat), a ≤ t → ∀ x ∈ fieldsC c l a t, x.1 ≤ x.2 ∧ x.2 ≤ t + l.length
  | [], a, t, h, x, hx => by
    simp only [fieldsC, List.mem_singleton] at hx
    subst hx
    exact ⟨h, Nat.le_refl _⟩
  | b :: r, a, t, h, x, hx => by
    unfold fieldsC at hx
    split at hx
    · rcases List.mem_cons.1 hx with rfl | hx
      · exact ⟨h, by simp⟩
      · have := fieldsC_in c r (t + 1) (t + 1) (Nat.le_refl _) x hx
        simp only [List.length_cons]
        omega
    · have := fieldsC_in c r a (t + 1) (by omega) x hx
      simp only [List.length_cons]
      omega
theorem fieldsB_in : ∀ (l : Str) (p : UInt8) (a t : Nat), a ≤ t → ∀ x ∈ fieldsB p l a t, x.1 ≤ x.2 ∧ x.2 ≤ t + l.length
  | [], p, a, t, h, x, hx => by
    simp only [fieldsB, List.mem_singleton] at hx
    subst hx
    exact ⟨h, Nat.le_refl _⟩
  | b :: r, p, a, t, h, x, hx => by
    unfold fieldsB at hx
    split at hx
    · rcases List.mem_cons.1 hx with rfl | hx
      · exact ⟨h, by simp⟩
      · have := fieldsB_in r b t (t + 1) (by omega) x hx
        simp only [List.length_cons]
        omega
    · have := fieldsB_in r b a (t + 1) (by omega) x hx
      simp only [List.length_cons]
      omega
theorem fieldsB_length : ∀ (l : Str) (p : UInt8) (a t : Nat), 1 ≤ (fieldsB p l a t).length ∧ (fieldsB p l a t).length ≤ l.length + 1
  | [], _, _, _ => by simp [fieldsB]
  | b :: r, p, a, t => by
    unfold fieldsB
    split
    · have := fieldsB_length r b t (t + 1)
      simp only [List.length_cons]
      omega
    · have := fieldsB_length r b a (t + 1)
      simp only [List.length_cons]
      omega
theorem fields_in (l : Str) (sep : Int) (x : Nat × Nat) (h : x ∈ fields l sep) : x.1 ≤ x.2 ∧ x.2 ≤ l.length := by
  unfold fields at h
  split at h
  · have := fieldsC_in _ l 0 0 (Nat.le_refl _) x h
    omega
  · cases l with
    | nil => cases h
    | cons b r =>
      have := fieldsB_in r b 0 1 (by omega) x h
      simp only [List.length_cons]
      omega
theorem fields_length (l : Str) (sep : Int) : (fields l sep).length ≤ l.length + 1 := by
  unfold fields
  split
  · exact (fieldsC_length _ l 0 0).2
  · cases l with
    | nil => exact Nat.zero_le _
    | cons b r =>
      have := (fieldsB_length r b 0 1).2
      simp only [List.length_cons]
      show (fieldsB b r 0 1).length ≤ _
      omega
/-- comparing bytes from a place on -/
theorem cmp_drop : ∀ (i : Nat) (x y : Str), i ≤ x.length → i ≤ y.length → x.take i = y.take i → cmp x y = cmp (x.drop i) (y.drop i)
  | 0, x, y, _, _, _ => rfl
  | i + 1, [], y, h, _, _ => by simp at h
  | i + 1, _ :: _, [], _, h, _ => by simp at h
  | i + 1, a :: x, b :: y, h1, h2, h => by
    simp only [List.take_succ_cons, List.cons.injEq] at h
    obtain ⟨rfl, h⟩ := h
    have hn : ¬ a < a := by simp
    rw [List.drop_succ_cons, List.drop_succ_cons, ← cmp_drop i x y (by simpa using h1) (by simpa using h2) h]
    conv => lhs; unfold cmp
    rw [if_neg hn, if_neg hn]
theorem cmp_less {i : Nat} {x y : Str} {a b : UInt8} (h : x.take i = y.take i) (hx : x[i]? = some a) (hy : y[i]? = some b) (hab : a.toNat < b.toNat) : cmp x y = -1 := by
  have h1 := (List.getElem?_eq_some_iff.1 hx).1
  have h2 := (List.getElem?_eq_some_iff.1 hy).1
  rw [cmp_drop i x y (by omega) (by omega) h, drop_cons hx, drop_cons hy, cmp, if_pos (UInt8.lt_iff_toNat_lt.2 hab)]
theorem cmp_more {i : Nat} {x y : Str} {a b : UInt8} (h : x.take i = y.take i) (hx : x[i]? = some a) (hy : y[i]? = some b) (hab : b.toNat < a.toNat) : cmp x y = 1 := by
  have h1 := (List.getElem?_eq_some_iff.1 hx).1
  have h2 := (List.getElem?_eq_some_iff.1 hy).1
  have : ¬ a < b := by rw [UInt8.lt_iff_toNat_lt]; omega
  rw [cmp_drop i x y (by omega) (by omega) h, drop_cons hx, drop_cons hy, cmp, if_neg this, if_pos (UInt8.lt_iff_toNat_lt.2 hab)]
theorem cmp_end {i : Nat} {x y : Str} (h : x.take i = y.take i) (h1 : i = x.length ∨ i = y.length) (hx : i ≤ x.length) (hy : i ≤ y.length) :
    cmp x y = if x.length < y.length then -1 else if y.length < x.length then 1 else 0 := by
  rw [cmp_drop i x y hx hy h]
  rcases h1 with rfl | rfl
  · rw [List.drop_length]
    cases hd : y.drop x.length with
    | nil =>
      have := congrArg List.length hd
      simp at this
      rw [if_neg (by omega), if_neg (by omega)]
      rfl
    | cons a r =>
      have := congrArg List.length hd
      simp at this
      rw [if_pos (by omega)]
      rfl
  · rw [List.drop_length]
    cases hd : x.drop y.length with
    | nil =>
      have := congrArg List.length hd
      simp at this
      rw [if_neg (by omega), if_neg (by omega)]
      rfl
    | cons a r =>
      have := congrArg List.length hd
      simp at this
      rw [if_neg (by omega), if_pos (by omega)]
      rfl
end Go.Proofs.YtkekpiillbpciaaGreatDoor.ScanMath

/- Sorting lists: merging two sorted lists step by step, inserting from the end. Plain lists. No condition. -/
namespace Go.Proofs.YtkekpiillbpciaaGreatDoor.SortMath
section
variable {α : Type} {gt : α → α → Bool}
theorem insAll_nil_left (W : Weak gt) {b : List α} (h : Srt gt b) : insAll gt [] b = b := by
  rw [← mrg_eq W (b.length + 1) [] b (by simp) List.Pairwise.nil h]
  rfl
theorem insAll_step (W : Weak gt) {x y : α} {a b : List α} (ha : Srt gt (x :: a)) (hb : Srt gt (y :: b)) :
    insAll gt (x :: a) (y :: b) = if gt x y then y :: insAll gt (x :: a) b else x :: insAll gt a (y :: b) := by
  have ha' := (List.pairwise_cons.1 ha).2
  have hb' := (List.pairwise_cons.1 hb).2
  rw [← mrg_eq W (a.length + b.length + 1 + 1) (x :: a) (y :: b) (by simp; omega) ha hb, mrg,
    mrg_eq W _ (x :: a) b (by simp; omega) ha hb', mrg_eq W _ a (y :: b) (by simp; omega) ha' hb]
theorem isort_half (W : Weak gt) (l : List α) (h : Nat) : isort gt l = insAll gt (isort gt (l.take h)) (isort gt (l.drop h)) := by
  rw [insAll_isort W]
  show insAll gt [] l = insAll gt (insAll gt [] _) _
  rw [← insAll_append, List.take_append_drop]
theorem length_insAll : ∀ (l s : List α), (insAll gt s l).length = s.length + l.length
  | [], s => by simp [insAll]
  | x :: l, s => by rw [insAll_cons, length_insAll l, length_ins]; simp; omega
theorem length_isort (l : List α) : (isort gt l).length = l.length := by show (insAll gt [] l).length = _; rw [length_insAll]; simp
theorem mem_insAll : ∀ (l s : List α) (x : α), x ∈ insAll gt s l ↔ x ∈ s ∨ x ∈ l
  | [], s, x => by simp [insAll]
  | y :: l, s, x => by
    rw [insAll_cons, mem_insAll l, mem_ins]
    simp only [List.mem_cons]
    constructor
    · rintro ((h | h) | h)
      · exact .inr (.inl h)
      · exact .inl h
      · exact .inr (.inr h)
    · rintro (h | h | h)
      · exact .inl (.inr h)
      · exact .inl (.inl h)
      · exact .inr h
theorem mem_isort (l : List α) (x : α) : x ∈ isort gt l ↔ x ∈ l := by show x ∈ insAll gt [] l ↔ _; rw [mem_insAll]; simp
theorem isort_short : ∀ {l : List α}, l.length < 2 → isort gt l = l
  | [], _ => rfl
  | [_], _ => rfl
  | _ :: _ :: _, h => by simp at h; omega
theorem isort_take {l : List α} {k : Nat} {x : α} (h : l[k]? = some x) : isort gt (l.take (k + 1)) = ins gt x (isort gt (l.take k)) := by
  rw [List.take_add_one, h]
  exact insAll_snoc [] _ x
/-- where an element goes in, looked for from the end of a sorted list -/
theorem ins_at (W : Weak gt) (x : α) : ∀ (s : List α) (k : Nat), k ≤ s.length → Srt gt s → (∀ j y, k ≤ j → s[j]? = some y → gt y x = true) → (∀ y, 0 < k → s[k - 1]? = some y → gt y x = false) → ins gt x s = s.take k ++ x :: s.drop k
  | [], k, hk, _, _, _ => by simp at hk; subst hk; rfl
  | y :: r, 0, _, _, h, _ => by simp [ins, h 0 y (Nat.le_refl _) rfl]
  | y :: r, k + 1, hk, hs, h, h0 => by
    have hs' := List.pairwise_cons.1 hs
    have hy : gt y x = false := by
      rcases Nat.eq_zero_or_pos k with e | e
      · subst e
        exact h0 y (by omega) rfl
      · have hl : k - 1 < r.length := by simp at hk; omega
        have hr : r[k - 1]? = some r[k - 1] := List.getElem?_eq_getElem hl
        have hz := h0 r[k - 1] (by omega) (by
          obtain ⟨m, rfl⟩ : ∃ m, k = m + 1 := ⟨k - 1, by omega⟩
          simp)
        exact W.trans (hs'.1 _ (List.mem_of_getElem? hr)) hz
    have ih := ins_at W x r k (by simp at hk; omega) hs'.2 (fun j z hj hz => h (j + 1) z (by omega) (by simpa using hz)) (fun z hk0 hz => h0 z (by omega) (by
      obtain ⟨m, rfl⟩ : ∃ m, k = m + 1 := ⟨k - 1, by omega⟩
      simpa using hz))
    simp only [ins, hy, Bool.false_eq_true, if_false, List.take_succ_cons, List.drop_succ_cons, List.cons_append]
    rw [ih]
end
end Go.Proofs.YtkekpiillbpciaaGreatDoor.SortMath
namespace Go.Proofs.YtkekpiillbpciaaGreatDoor.KeyMath
theorem onceTo_skip {p : SortSpec} {out r : List Str} {x y : Str} (h : out.getLast? = some y) (hc : compare p y x = 0) : onceTo p out (x :: r) = onceTo p out r := by
  rw [onceTo, h]
  simp [hc]
theorem onceTo_add {p : SortSpec} {out r : List Str} {x y : Str} (h : out.getLast? = some y) (hc : compare p y x ≠ 0) : onceTo p out (x :: r) = onceTo p (out ++ [x]) r := by
  rw [onceTo, h]
  simp [hc]
theorem onceTo_first {p : SortSpec} {r : List Str} {x : Str} : onceTo p [] (x :: r) = onceTo p [x] r := rfl
theorem onceTo_nil {p : SortSpec} (out : List Str) : onceTo p out [] = out := by unfold onceTo; rfl
end Go.Proofs.YtkekpiillbpciaaGreatDoor.KeyMath

/- Reading decimal numbers: digits, four digits behind a point, and the number at the beginning of a string, step by step. Plain lists. No condition. -/
namespace Go.Proofs.YtkekpiillbpciaaGreatDoor.NumMath
open KeyMath ScanMath

def Digs (l : Str) : Prop := ∀ b ∈ l, digit b = true
theorem digit_iff (b : UInt8) : digit b = true ↔ 48 ≤ b.toNat ∧ b.toNat ≤ 57 := by
  unfold digit
  rw [Bool.and_eq_true, decide_eq_true_iff, decide_eq_true_iff, UInt8.le_iff_toNat_le, UInt8.le_iff_toNat_le]
  exact Iff.rfl
theorem blank_iff (b : UInt8) : isBlank b = true ↔ b.toNat = 32 ∨ b.toNat = 9 := by
  unfold isBlank
  rw [Bool.or_eq_true, beq_iff_eq, beq_iff_eq, ← UInt8.toNat_inj, ← UInt8.toNat_inj]
  exact Iff.rfl
theorem numv_snoc (l : Str) (b : UInt8) : numv (l ++ [b]) = 10 * numv l + (b.toNat - 48) := by simp [numv]
theorem numv_grow (l : Str) : ∀ r : Str, numv l ≤ numv (l ++ r) := by
  intro r
  induction r generalizing l with
  | nil => simp
  | cons b r ih =>
    have e : l ++ b :: r = (l ++ [b]) ++ r := by simp
    rw [e]
    have h1 := ih (l ++ [b])
    have h2 := numv_snoc l b
    omega
theorem take_snoc {l : Str} {k : Nat} {x : UInt8} (h : l[k]? = some x) : l.take (k + 1) = l.take k ++ [x] := by
  rw [List.take_add_one, h]
  rfl
theorem numv_take {l : Str} {k : Nat} {x : UInt8} (h : l[k]? = some x) : numv (l.take (k + 1)) = 10 * numv (l.take k) + (x.toNat - 48) := by rw [take_snoc h, numv_snoc]
theorem numv_big {l : Str} {k : Nat} (h : 1000000000 < numv (l.take k)) : 1000000000 < numv l := by
  have := numv_grow (l.take k) (l.drop k)
  rw [List.take_append_drop] at this
  omega
/-- the first digits behind a point -/
def fr (f : Str) : Nat → Nat
  | 0 => 0
  | k + 1 => 10 * fr f k + dig f k
theorem fr4 (f : Str) : fr f 4 = fracv f := by
  simp only [fr, fracv]
  omega
theorem dig_some {f : Str} {k : Nat} {x : UInt8} (h : f[k]? = some x) : dig f k = x.toNat - 48 := by simp [dig, h]
theorem dig_none {f : Str} {k : Nat} (h : f.length ≤ k) : dig f k = 0 := by simp [dig, List.getElem?_eq_none_iff.2 h]
theorem dig_le {f : Str} (h : Digs f) (k : Nat) : dig f k ≤ 9 := by
  cases hk : f[k]? with
  | none => simp [dig, hk]
  | some x =>
    rw [dig_some hk]
    have := (digit_iff x).1 (h x (List.mem_of_getElem? hk))
    omega
theorem fr_le {f : Str} (h : Digs f) : ∀ k, fr f k < 10 ^ k
  | 0 => by simp [fr]
  | k + 1 => by
    have := fr_le h k
    have := dig_le h k
    rw [fr, Nat.pow_succ]
    omega
theorem fracv_le {f : Str} (h : Digs f) : fracv f ≤ 9999 := by
  have := fr_le h 4
  rw [fr4] at this
  omega
theorem fracv_take (f : Str) : fracv (f.take 4) = fracv f := by
  have e : ∀ i, i < 4 → dig (f.take 4) i = dig f i := by
    intro i hi
    unfold dig
    rw [List.getElem?_take, if_pos hi]
  unfold fracv
  rw [e 0 (by omega), e 1 (by omega), e 2 (by omega), e 3 (by omega)]
/-- the digits of a span -/
theorem span_digs (l : Str) (i : Nat) : Digs ((l.take (spanEnd digit l i)).drop i) := by
  have e : (l.take (spanEnd digit l i)).drop i = (l.drop i).takeWhile digit := by
    unfold spanEnd
    rw [List.drop_take, Nat.add_sub_cancel_left]
    have := List.takeWhile_prefix digit (l := l.drop i)
    exact (List.prefix_iff_eq_take.1 this).symm
  rw [e]
  generalize l.drop i = m
  induction m with
  | nil => intro b hb; simp at hb
  | cons x m ih =>
    intro b hb
    rw [List.takeWhile_cons] at hb
    split at hb
    · rename_i hx
      rcases List.mem_cons.1 hb with rfl | hb
      · exact hx
      · exact ih b hb
    · cases hb
/-- what the program's value returns -/
def valv (s f : Str) : Nat := if 1000000000 < numv s then 10000000000001 else min 10000000000001 (numv s * 10000 + fracv f)
theorem valv_min {s f : Str} (hf : Digs f) : min 10000000000000 (valv s f) = min 10000000000000 (numv s * 10000 + fracv f) := by
  have := fracv_le hf
  unfold valv
  split <;> omega
theorem valv_le (s f : Str) : valv s f ≤ 10000000000001 := by
  unfold valv
  split <;> omega
end Go.Proofs.YtkekpiillbpciaaGreatDoor.NumMath

/- The number at the beginning of a string behind its blanks and its sign. Plain lists. No condition. -/
namespace Go.Proofs.YtkekpiillbpciaaGreatDoor.NumMath
open KeyMath ScanMath

def sg (neg : Bool) (d : Nat) : Int := if neg then -(d : Int) else (d : Int)
def after (l : Str) (e : Nat) : Str := if l[e]? = some 46 then (l.take (spanEnd digit l (e + 1))).drop (e + 1) else []
/-- the size of the number whose digits begin at a place -/
def restv (l : Str) (b : Nat) : Nat := min 10000000000000 (numv ((l.take (spanEnd digit l b)).drop b) * 10000 + fracv (after l (spanEnd digit l b)))
theorem num_rest (l : Str) : num l = sg (decide (l[spanEnd isBlank l 0]? = some 45)) (restv l (if l[spanEnd isBlank l 0]? = some 45 ∨ l[spanEnd isBlank l 0]? = some 43 then spanEnd isBlank l 0 + 1 else spanEnd isBlank l 0)) := by
  unfold num restv after sg
  simp only [decide_eq_true_eq]
theorem restv_no {l : Str} {b e : Nat} (he : spanEnd digit l b = e) (h : l[e]? ≠ some 46) : restv l b = min 10000000000000 (valv ((l.take e).drop b) []) := by
  rw [valv_min (by intro b hb; cases hb)]
  unfold restv after
  rw [he, if_neg h]
theorem restv_zero {l : Str} {b : Nat} (he : spanEnd digit l b = b) (h : l[b]? ≠ some 46) : restv l b = 0 := by
  unfold restv after
  rw [he, if_neg h]
  have : (l.take b).drop b = [] := List.drop_eq_nil_of_le (by rw [List.length_take]; omega)
  rw [this]
  rfl
theorem restv_yes {l : Str} {b e k : Nat} (he : spanEnd digit l b = e) (h : l[e]? = some 46) (hk : spanEnd digit l (e + 1) = k) : restv l b = min 10000000000000 (valv ((l.take e).drop b) ((l.take k).drop (e + 1))) := by
  rw [valv_min (by rw [← hk]; exact span_digs l (e + 1))]
  unfold restv after
  rw [he, if_pos h, hk]
theorem restv_bare {l : Str} {b : Nat} (he : spanEnd digit l b = b) (h : l[b]? = some 46) (hk : spanEnd digit l (b + 1) = b + 1) : restv l b = 0 := by
  unfold restv after
  rw [he, if_pos h, hk]
  have e1 : (l.take b).drop b = [] := List.drop_eq_nil_of_le (by rw [List.length_take]; omega)
  have e2 : (l.take (b + 1)).drop (b + 1) = [] := List.drop_eq_nil_of_le (by rw [List.length_take]; omega)
  rw [e1, e2]
  rfl
end Go.Proofs.YtkekpiillbpciaaGreatDoor.NumMath
