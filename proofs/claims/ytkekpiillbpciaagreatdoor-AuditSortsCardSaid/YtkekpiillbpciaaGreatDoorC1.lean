/- CxCore; CxHeap; CxEval: merged into one text: lemmas for the walk of the law. No condition. -/
import Derived.Test.YtkekpiillbpciaaGreatDoorM1
import Derived.Below
import GoSem.Dispatch
import Derived.Orders
/- A machine that runs a program's code on written inputs by computation alone, part 1: the kept values, how they stand for the values of a world, and how a run changes a world. No condition. -/
namespace Go.Proofs.YtkekpiillbpciaaGreatDoor.Cx
open Go

theorem nbeq_f {m n : Nat} (h : m ≠ n) : Nat.beq m n = false := by
  cases hb : Nat.beq m n
  · rfl
  · exact absurd (Nat.eq_of_beq_eq_true hb) h
theorem nbeq_t {m n : Nat} (h : m = n) : Nat.beq m n = true := by subst h; exact Nat.beq_refl m
def deep : Nat := 40
/-- a tree of values under numbers -/
inductive Tr (α : Type) where
  | leaf
  | node (v : Option α) (l r : Tr α)

namespace Tr
variable {α : Type}
def top (t : Tr α) : Option α := @Tr.casesOn α (fun _ => Option α) t none (fun v _ _ => v)
def left (t : Tr α) : Tr α := @Tr.casesOn α (fun _ => Tr α) t .leaf (fun _ l _ => l)
def right (t : Tr α) : Tr α := @Tr.casesOn α (fun _ => Tr α) t .leaf (fun _ _ r => r)
def getF (f : Nat) : Tr α → Nat → Option α := @Nat.rec (fun _ => Tr α → Nat → Option α) (fun _ _ => none)
  (fun _ ih t n => @Tr.casesOn α (fun _ => Option α) t none fun v l r => @Bool.casesOn (fun _ => Option α) (Nat.beq n 0) (@Bool.casesOn (fun _ => Option α) (Nat.beq (n % 2) 1) (ih r (n / 2 - 1)) (ih l (n / 2))) v) f
def get (t : Tr α) (n : Nat) : Option α := getF deep t n
def set (f : Nat) : Tr α → Nat → Option α → Tr α := @Nat.rec (fun _ => Tr α → Nat → Option α → Tr α) (fun t _ _ => t)
  (fun _ ih t n v => @Bool.casesOn (fun _ => Tr α) (Nat.beq n 0) (@Bool.casesOn (fun _ => Tr α) (Nat.beq (n % 2) 1) (.node t.top t.left (ih t.right (n / 2 - 1) v)) (.node t.top (ih t.left (n / 2) v) t.right)) (.node v t.left t.right)) f

theorem getF_leaf (f n : Nat) : getF f (Tr.leaf : Tr α) n = none := by cases f <;> rfl
theorem get_leaf (n : Nat) : (Tr.leaf : Tr α).get n = none := rfl
theorem getF_succ (f : Nat) (t : Tr α) (n : Nat) : getF (f + 1) t n = if n = 0 then t.top else if n % 2 = 1 then getF f t.left (n / 2) else getF f t.right (n / 2 - 1) := by
  cases t with
  | leaf => 
    have h1 : getF f (Tr.leaf : Tr α).left (n / 2) = none := getF_leaf _ _
    have h2 : getF f (Tr.leaf : Tr α).right (n / 2 - 1) = none := getF_leaf _ _
    rw [h1, h2]
    have h3 : (Tr.leaf : Tr α).top = none := rfl
    rw [h3]
    simp only [ite_self]
    rfl
  | node v l r =>
    show (@Bool.casesOn (fun _ => Option α) (Nat.beq n 0) (@Bool.casesOn (fun _ => Option α) (Nat.beq (n % 2) 1) (getF f r (n / 2 - 1)) (getF f l (n / 2))) v) = if n = 0 then v else if n % 2 = 1 then getF f l (n / 2) else getF f r (n / 2 - 1)
    by_cases h : n = 0
    · rw [if_pos h, nbeq_t h]
    · rw [if_neg h, nbeq_f h]
      by_cases h1 : n % 2 = 1
      · rw [if_pos h1, nbeq_t h1]
      · rw [if_neg h1, nbeq_f h1]
theorem set_succ (f : Nat) (t : Tr α) (n : Nat) (v : Option α) : t.set (f + 1) n v = if n = 0 then .node v t.left t.right else if n % 2 = 1 then .node t.top (t.left.set f (n / 2) v) t.right else .node t.top t.left (t.right.set f (n / 2 - 1) v) := by
  show (@Bool.casesOn (fun _ => Tr α) (Nat.beq n 0) (@Bool.casesOn (fun _ => Tr α) (Nat.beq (n % 2) 1) (.node t.top t.left (t.right.set f (n / 2 - 1) v)) (.node t.top (t.left.set f (n / 2) v) t.right)) (.node v t.left t.right)) = _
  by_cases h : n = 0
  · rw [if_pos h, nbeq_t h]
  · rw [if_neg h, nbeq_f h]
    by_cases h1 : n % 2 = 1
    · rw [if_pos h1, nbeq_t h1]
    · rw [if_neg h1, nbeq_f h1]
theorem getF_set (f : Nat) : ∀ (t : Tr α) (n : Nat) (v : Option α), n + 1 < 2 ^ f → getF f (t.set f n v) n = v := by
  induction f with
  | zero => intro t n v h; simp at h
  | succ f ih =>
    intro t n v h
    have hp : 2 ^ (f + 1) = 2 * 2 ^ f := by rw [Nat.pow_succ]; omega
    rw [getF_succ, set_succ]
    by_cases h0 : n = 0
    · simp only [h0, if_true]; rfl
    · by_cases h1 : n % 2 = 1
      · simp only [h0, h1, if_false, if_true]
        exact ih _ _ _ (by omega)
      · simp only [h0, h1, if_false]
        exact ih _ _ _ (by omega)
theorem getF_set_ne (f : Nat) : ∀ (t : Tr α) (n m : Nat) (v : Option α), m ≠ n → getF f (t.set f n v) m = getF f t m := by
  induction f with
  | zero => intro t n m v h; rfl
  | succ f ih =>
    intro t n m v h
    rw [getF_succ, getF_succ, set_succ]
    by_cases h0 : n = 0
    · subst h0
      simp only [h, if_false, if_true]
      rfl
    · by_cases h1 : n % 2 = 1
      · simp only [h0, h1, if_false, if_true]
        by_cases hm : m = 0
        · simp only [hm, if_true]; rfl
        · by_cases hm1 : m % 2 = 1
          · simp only [hm, hm1, if_false, if_true]; exact ih _ _ _ _ (by omega)
          · simp only [hm, hm1, if_false]; rfl
      · simp only [h0, h1, if_false]
        by_cases hm : m = 0
        · simp only [hm, if_true]; rfl
        · by_cases hm1 : m % 2 = 1
          · simp only [hm, hm1, if_false, if_true]; rfl
          · simp only [hm, hm1, if_false]; exact ih _ _ _ _ (by omega)
theorem get_set (t : Tr α) (n : Nat) (v : Option α) (h : n + 1 < 2 ^ deep) : (t.set deep n v).get n = v := getF_set deep t n v h
theorem get_set_ne (t : Tr α) (n m : Nat) (v : Option α) (h : m ≠ n) : (t.set deep n v).get m = t.get m := getF_set_ne deep t n m v h
end Tr

section
variable {α : Type}
def nth (l : List α) (n : Nat) : Option α := @Nat.rec (fun _ => List α → Option α) (fun l => @List.casesOn α (fun _ => Option α) l none (fun a _ => some a)) (fun _ ih l => @List.casesOn α (fun _ => Option α) l none (fun _ r => ih r)) n l
def dropN (n : Nat) (l : List α) : List α := @Nat.rec (fun _ => List α → List α) (fun l => l) (fun _ ih l => @List.casesOn α (fun _ => List α) l [] (fun _ r => ih r)) n l
def takeN (n : Nat) (l : List α) : List α := @Nat.rec (fun _ => List α → List α) (fun _ => []) (fun _ ih l => @List.casesOn α (fun _ => List α) l [] (fun a r => a :: ih r)) n l
def lenIs (n : Nat) (l : List α) : Bool := @Nat.rec (fun _ => List α → Bool) (fun l => @List.casesOn α (fun _ => Bool) l true (fun _ _ => false)) (fun _ ih l => @List.casesOn α (fun _ => Bool) l false (fun _ r => ih r)) n l
def apN (new l : List α) : List α := @Nat.rec (fun _ => List α → List α) (fun l => l ++ new) (fun _ ih l => @List.casesOn α (fun _ => List α) l new (fun a r => a :: ih r)) 1000000000 l
def spliceN (vs : List α) (o : Nat) (l : List α) : List α := @Nat.rec (fun _ => List α → List α) (fun l => vs ++ dropN vs.length l) (fun _ ih l => @List.casesOn α (fun _ => List α) l (vs ++ []) (fun a r => a :: ih r)) o l
def leLen (n : Nat) (l : List α) : Bool := @Nat.rec (fun _ => List α → Bool) (fun _ => true) (fun _ ih l => @List.casesOn α (fun _ => Bool) l false (fun _ r => ih r)) n l
theorem leLen_le : ∀ (n : Nat) (l : List α), leLen n l = true → n ≤ l.length
  | 0, _, _ => Nat.zero_le _
  | _ + 1, [], h => by cases h
  | n + 1, _ :: r, h => Nat.succ_le_succ (leLen_le n r h)
theorem nth_eq : ∀ (n : Nat) (l : List α), nth l n = l[n]?
  | 0, [] => rfl
  | 0, _ :: _ => rfl
  | _ + 1, [] => rfl
  | n + 1, _ :: r => nth_eq n r
theorem dropN_eq : ∀ (n : Nat) (l : List α), dropN n l = l.drop n
  | 0, [] => rfl
  | 0, _ :: _ => rfl
  | _ + 1, [] => rfl
  | n + 1, _ :: r => dropN_eq n r
theorem takeN_eq : ∀ (n : Nat) (l : List α), takeN n l = l.take n
  | 0, [] => rfl
  | 0, _ :: _ => rfl
  | _ + 1, [] => rfl
  | n + 1, a :: r => congrArg (a :: ·) (takeN_eq n r)
theorem lenIs_eq : ∀ (n : Nat) (l : List α), lenIs n l = Nat.beq n l.length
  | 0, [] => rfl
  | 0, _ :: _ => rfl
  | _ + 1, [] => rfl
  | n + 1, _ :: r => lenIs_eq n r
theorem apN_aux (new : List α) : ∀ (f : Nat) (l : List α), @Nat.rec (fun _ => List α → List α) (fun l => l ++ new) (fun _ ih l => @List.casesOn α (fun _ => List α) l new (fun a r => a :: ih r)) f l = l ++ new
  | 0, _ => rfl
  | _ + 1, [] => rfl
  | f + 1, a :: r => congrArg (a :: ·) (apN_aux new f r)
theorem apN_eq (new l : List α) : apN new l = l ++ new := apN_aux new 1000000000 l
theorem spliceN_eq (vs : List α) : ∀ (o : Nat) (l : List α), spliceN vs o l = l.take o ++ (vs ++ l.drop (o + vs.length))
  | 0, l => by
    show vs ++ dropN vs.length l = _
    rw [dropN_eq]
    simp
  | o + 1, [] => by
    show vs ++ [] = _
    simp
  | o + 1, a :: r => by
    show a :: spliceN vs o r = _
    rw [spliceN_eq vs o r]
    have : o + 1 + vs.length = (o + vs.length) + 1 := by omega
    rw [this]
    simp
end

section
variable {α β : Type}
def forceN (n : Nat) (k : Nat → β) : β := @Nat.casesOn (fun _ => β) n (k 0) (fun m => k (Nat.succ m))
theorem forceN_eq (n : Nat) (k : Nat → β) : forceN n k = k n := by cases n <;> rfl
def setK (f : Nat) : Tr α → Nat → Option α → (Tr α → β) → β := @Nat.rec (fun _ => Tr α → Nat → Option α → (Tr α → β) → β) (fun t _ _ k => k t)
  (fun _ ih t n v k => @Bool.casesOn (fun _ => β) (Nat.beq n 0)
    (@Bool.casesOn (fun _ => β) (Nat.beq (n % 2) 1)
      (@Tr.casesOn α (fun _ => β) t (forceN (n / 2 - 1) fun m => ih .leaf m v fun r => k (.node none .leaf r)) (fun u l r => forceN (n / 2 - 1) fun m => ih r m v fun r => k (.node u l r)))
      (@Tr.casesOn α (fun _ => β) t (forceN (n / 2) fun m => ih .leaf m v fun l => k (.node none l .leaf)) (fun u l r => forceN (n / 2) fun m => ih l m v fun l => k (.node u l r))))
    (@Tr.casesOn α (fun _ => β) t (k (.node v .leaf .leaf)) (fun _ l r => k (.node v l r)))) f
theorem setK_succ (f : Nat) (t : Tr α) (n : Nat) (v : Option α) (k : Tr α → β) : setK (f + 1) t n v k = if n = 0 then k (.node v t.left t.right) else if n % 2 = 1 then setK f t.left (n / 2) v (fun l => k (.node t.top l t.right)) else setK f t.right (n / 2 - 1) v (fun r => k (.node t.top t.left r)) := by
  show (@Bool.casesOn (fun _ => β) (Nat.beq n 0)
    (@Bool.casesOn (fun _ => β) (Nat.beq (n % 2) 1)
      (@Tr.casesOn α (fun _ => β) t (forceN (n / 2 - 1) fun m => setK f .leaf m v fun r => k (.node none .leaf r)) (fun u l r => forceN (n / 2 - 1) fun m => setK f r m v fun r => k (.node u l r)))
      (@Tr.casesOn α (fun _ => β) t (forceN (n / 2) fun m => setK f .leaf m v fun l => k (.node none l .leaf)) (fun u l r => forceN (n / 2) fun m => setK f l m v fun l => k (.node u l r))))
    (@Tr.casesOn α (fun _ => β) t (k (.node v .leaf .leaf)) (fun _ l r => k (.node v l r)))) = _
  by_cases h : n = 0
  · rw [if_pos h, nbeq_t h]
    cases t <;> rfl
  · rw [if_neg h, nbeq_f h]
    by_cases h1 : n % 2 = 1
    · rw [if_pos h1, nbeq_t h1]
      cases t <;> exact forceN_eq _ _
    · rw [if_neg h1, nbeq_f h1]
      cases t <;> exact forceN_eq _ _
theorem setK_eq (f : Nat) : ∀ (t : Tr α) (n : Nat) (v : Option α) (k : Tr α → β), setK f t n v k = k (t.set f n v) := by
  induction f with
  | zero => intro t n v k; rfl
  | succ f ih =>
    intro t n v k
    rw [setK_succ, Tr.set_succ, ih, ih]
    by_cases h : n = 0
    · rw [if_pos h, if_pos h]
    · rw [if_neg h, if_neg h]
      by_cases h1 : n % 2 = 1
      · rw [if_pos h1, if_pos h1]
      · rw [if_neg h1, if_neg h1]
def forceSF (f : Nat) : List α → (List α → β) → β := @Nat.rec (fun _ => List α → (List α → β) → β) (fun l k => k l) (fun _ ih l k => @List.casesOn α (fun _ => β) l (k []) (fun a r => ih r fun r => k (a :: r))) f
theorem forceSF_eq : ∀ (f : Nat) (l : List α) (k : List α → β), forceSF f l k = k l
  | 0, _, _ => rfl
  | _ + 1, [], _ => rfl
  | f + 1, a :: r, k => forceSF_eq f r fun r => k (a :: r)
/-- a list whose spine has been read -/
def forceS (l : List α) (k : List α → β) : β := forceSF 1000000000 l k
theorem forceS_eq (l : List α) (k : List α → β) : forceS l k = k l := forceSF_eq 1000000000 l k
def apKF (new : List α) (f : Nat) : List α → (List α → β) → β := @Nat.rec (fun _ => List α → (List α → β) → β) (fun l k => k (l ++ new)) (fun _ ih l k => @List.casesOn α (fun _ => β) l (forceS new k) (fun a r => ih r fun r => k (a :: r))) f
theorem apKF_eq (new : List α) : ∀ (f : Nat) (l : List α) (k : List α → β), apKF new f l k = k (l ++ new)
  | 0, _, _ => rfl
  | _ + 1, [], k => forceS_eq new k
  | f + 1, a :: r, k => apKF_eq new f r fun r => k (a :: r)
def apK (new l : List α) (k : List α → β) : β := apKF new 1000000000 l k
theorem apK_eq (new l : List α) (k : List α → β) : apK new l k = k (l ++ new) := apKF_eq new 1000000000 l k
def spliceE (vs l : List α) (k : List α → β) : β := match vs with
  | [v] => @List.casesOn α (fun _ => β) l (k [v]) (fun _ r => k (v :: r))
  | vs => forceS (vs ++ dropN vs.length l) k
theorem spliceE_eq (vs l : List α) (k : List α → β) : spliceE vs l k = k (vs ++ dropN vs.length l) := by
  unfold spliceE
  split
  · rename_i v
    cases l <;> rfl
  · exact forceS_eq _ _
def spliceK (vs : List α) (o : Nat) : List α → (List α → β) → β := @Nat.rec (fun _ => List α → (List α → β) → β) (fun l k => spliceE vs l k) (fun _ ih l k => @List.casesOn α (fun _ => β) l (forceS (vs ++ []) k) (fun a r => ih r fun r => k (a :: r))) o
theorem spliceK_eq (vs : List α) : ∀ (o : Nat) (l : List α) (k : List α → β), spliceK vs o l k = k (spliceN vs o l)
  | 0, l, k => spliceE_eq vs l k
  | _ + 1, [], k => forceS_eq _ k
  | o + 1, a :: r, k => spliceK_eq vs o r fun r => k (a :: r)
def forceV0 (v : Value) (k : Value → β) : β := match v with
  | .int d i => match i with
    | .ofNat n => forceN n fun n => k (.int d (.ofNat n))
    | .negSucc n => k (.int d (.negSucc n))
  | .bool b => match b with
    | true => k (.bool true)
    | false => k (.bool false)
  | .pointer a => match a with
    | some ⟨b, o, none⟩ => forceN b fun b => forceN o fun o => k (.pointer (some ⟨b, o, none⟩))
    | a => k (.pointer a)
  | .slice a l c => match a with
    | some ⟨b, o, none⟩ => forceN b fun b => forceN o fun o => forceN l fun l => forceN c fun c => k (.slice (some ⟨b, o, none⟩) l c)
    | a => k (.slice a l c)
  | .map r => match r with
    | some r => forceN r fun r => k (.map (some r))
    | none => k (.map none)
  | v => k v
theorem forceV0_eq (v : Value) (k : Value → β) : forceV0 v k = k v := by
  unfold forceV0
  split
  · split
    · exact forceN_eq _ _
    · rfl
  · split <;> rfl
  · split
    · simp only [forceN_eq]
    · rfl
  · split
    · simp only [forceN_eq]
    · rfl
  · split
    · exact forceN_eq _ _
    · rfl
  · rfl
def forceVF (f : Nat) : List Value → (List Value → β) → β := @Nat.rec (fun _ => List Value → (List Value → β) → β) (fun l k => k l) (fun _ ih l k => @List.casesOn Value (fun _ => β) l (k []) (fun a r => forceV0 a fun a => ih r fun r => k (a :: r))) f
theorem forceVF_eq : ∀ (f : Nat) (l : List Value) (k : List Value → β), forceVF f l k = k l
  | 0, _, _ => rfl
  | _ + 1, [], _ => rfl
  | f + 1, a :: r, k => (forceV0_eq a (fun a => forceVF f r fun r => k (a :: r))).trans (forceVF_eq f r fun r => k (a :: r))
/-- a list whose values have been read -/
def forceVs (l : List Value) (k : List Value → β) : β := forceVF 1000000000 l k
theorem forceVs_eq (l : List Value) (k : List Value → β) : forceVs l k = k l := forceVF_eq 1000000000 l k
/-- a value that has been read -/
def forceV (v : Value) (k : Value → β) : β := match v with
  | .agg c => match c with
    | ⟨l⟩ => forceVs l fun l => k (.agg ⟨l⟩)
  | v => forceV0 v k
theorem forceV_eq (v : Value) (k : Value → β) : forceV v k = k v := by
  unfold forceV
  split
  · exact forceVs_eq _ _
  · exact forceV0_eq _ _
end

/-- where a name lies in a world: its block, the number of the block's cells (of a row), and the size of its elements as slices see it -/
structure Emb where
  blk : Nat
  rows : Nat
  esz : Nat
abbrev Em := Nat → Option Emb

/-- the capacity that is not known -/
def unk : Nat := 2 ^ 70

/-- a value with names stands for a value of a world -/
inductive VR (E : Em) : Value → Value → Prop where
  | bool (b : Bool) : VR E (.bool b) (.bool b)
  | int (k : IntKind) (n : Int) : VR E (.int k n) (.int k n)
  | string (s : ByteArray) : VR E (.string s) (.string s)
  | ptr0 : VR E (.pointer none) (.pointer none)
  | ptr (b o : Nat) (e : Emb) : E b = some e → VR E (.pointer (some ⟨b, o, none⟩)) (.pointer (some ⟨e.blk, o, none⟩))
  | slice0 (l c : Nat) : VR E (.slice none l c) (.slice none l c)
  | slice (b o l c c' : Nat) (e : Emb) : E b = some e → (c = c' ∨ (c = unk ∧ (e.esz = 0 ∨ o + c' * e.esz = e.rows))) → l ≤ c' → (e.esz = 0 ∨ o + c' * e.esz ≤ e.rows) → c' < unk → VR E (.slice (some ⟨b, o, none⟩) l c) (.slice (some ⟨e.blk, o, none⟩) l c')
  | slice00 (b o c : Nat) : VR E (.slice (some ⟨0, 0, some 0⟩) 0 unk) (.slice (some ⟨b, o, none⟩) 0 c)
  | map0 : VR E (.map none) (.map none)
  | map (r : Nat) (e : Emb) : E r = some e → VR E (.map (some r)) (.map (some e.blk))
  | nilFunc : VR E .nilFunc .nilFunc
  | func (fn : Fn) (f f' c c' : Array Value) : f.size = f'.size → (∀ i (h : i < f.size) (h' : i < f'.size), VR E f[i] f'[i]) → c.size = c'.size → (∀ i (h : i < c.size) (h' : i < c'.size), VR E c[i] c'[i]) → VR E (.func fn f c) (.func fn f' c')
  | nilIface : VR E .nilIface .nilIface
  | iface (t : TypeId) (v v' : Value) : VR E v v' → VR E (.iface t v) (.iface t v')
  | agg (c c' : Array Value) : c.size = c'.size → (∀ i (h : i < c.size) (h' : i < c'.size), VR E c[i] c'[i]) → VR E (.agg c) (.agg c')
  | tuple (c c' : Array Value) : c.size = c'.size → (∀ i (h : i < c.size) (h' : i < c'.size), VR E c[i] c'[i]) → VR E (.tuple c) (.tuple c')

/-- lists of such values -/
def LR (E : Em) : List Value → List Value → Prop
  | [], [] => True
  | x :: xs, y :: ys => VR E x y ∧ LR E xs ys
  | _, _ => False

def Ext (E E' : Em) : Prop := ∀ b e, E b = some e → E' b = some e
theorem Ext.refl (E : Em) : Ext E E := fun _ _ h => h
theorem Ext.trans {E F G : Em} (h : Ext E F) (k : Ext F G) : Ext E G := fun b e x => k b e (h b e x)

section
variable {E E' : Em}
theorem VR.ext (hE : Ext E E') {v v' : Value} (h : VR E v v') : VR E' v v' := by
  induction h with
  | bool b => exact .bool b
  | int k n => exact .int k n
  | string s => exact .string s
  | ptr0 => exact .ptr0
  | ptr b o e h => exact .ptr b o e (hE _ _ h)
  | slice0 l c => exact .slice0 l c
  | slice b o l c c' e h h1 h2 h3 h4 => exact .slice b o l c c' e (hE _ _ h) h1 h2 h3 h4
  | slice00 b o c => exact .slice00 b o c
  | map0 => exact .map0
  | map r e h => exact .map r e (hE _ _ h)
  | nilFunc => exact .nilFunc
  | func fn f f' c c' h1 _ h2 _ i1 i2 => exact .func fn f f' c c' h1 i1 h2 i2
  | nilIface => exact .nilIface
  | iface t v v' _ i => exact .iface t v v' i
  | agg c c' h _ i => exact .agg c c' h i
  | tuple c c' h _ i => exact .tuple c c' h i

theorem LR.length : ∀ {xs ys : List Value}, LR E xs ys → xs.length = ys.length
  | [], [], _ => rfl
  | _ :: _, _ :: _, h => by simp [LR.length h.2]
  | [], _ :: _, h => h.elim
  | _ :: _, [], h => h.elim
theorem LR.at : ∀ {xs ys : List Value}, LR E xs ys → ∀ (i : Nat) (x : Value), xs[i]? = some x → ∃ y, ys[i]? = some y ∧ VR E x y
  | [], [], _, i, x, hx => by simp at hx
  | a :: xs, b :: ys, h, i, x, hx => by
    cases i with
    | zero => simp at hx; subst hx; exact ⟨b, rfl, h.1⟩
    | succ i => simpa using LR.at h.2 i x (by simpa using hx)
  | [], _ :: _, h, _, _, _ => h.elim
  | _ :: _, [], h, _, _, _ => h.elim
theorem LR.of_at : ∀ {xs ys : List Value}, xs.length = ys.length → (∀ (i : Nat) (x y : Value), xs[i]? = some x → ys[i]? = some y → VR E x y) → LR E xs ys
  | [], [], _, _ => trivial
  | a :: xs, b :: ys, hl, h => ⟨h 0 a b rfl rfl, LR.of_at (by simpa using hl) fun i x y hx hy => h (i + 1) x y (by simpa using hx) (by simpa using hy)⟩
  | [], _ :: _, hl, _ => by simp at hl
  | _ :: _, [], hl, _ => by simp at hl
theorem LR.ext (hE : Ext E E') : ∀ {xs ys : List Value}, LR E xs ys → LR E' xs ys
  | [], [], _ => trivial
  | _ :: _, _ :: _, h => ⟨h.1.ext hE, LR.ext hE h.2⟩
  | [], _ :: _, h => h.elim
  | _ :: _, [], h => h.elim
theorem LR.append : ∀ {xs ys us vs : List Value}, LR E xs ys → LR E us vs → LR E (xs ++ us) (ys ++ vs)
  | [], [], _, _, _, h => h
  | _ :: _, _ :: _, _, _, h, k => ⟨h.1, LR.append h.2 k⟩
  | [], _ :: _, _, _, h, _ => h.elim
  | _ :: _, [], _, _, h, _ => h.elim
theorem LR.take : ∀ {xs ys : List Value} (n : Nat), LR E xs ys → LR E (xs.take n) (ys.take n)
  | [], [], n, _ => by simp [LR]
  | _ :: _, _ :: _, 0, _ => by simp [LR]
  | _ :: _, _ :: _, n + 1, h => ⟨h.1, LR.take n h.2⟩
  | [], _ :: _, _, h => h.elim
  | _ :: _, [], _, h => h.elim
theorem LR.drop : ∀ {xs ys : List Value} (n : Nat), LR E xs ys → LR E (xs.drop n) (ys.drop n)
  | [], [], n, _ => by simp [LR]
  | _ :: _, _ :: _, 0, h => h
  | _ :: _, _ :: _, n + 1, h => LR.drop n h.2
  | [], _ :: _, _, h => h.elim
  | _ :: _, [], _, h => h.elim
theorem LR.snoc {xs ys : List Value} {x y : Value} (h : LR E xs ys) (k : VR E x y) : LR E (xs ++ [x]) (ys ++ [y]) := h.append ⟨k, trivial⟩
theorem LR.replicate {x y : Value} (h : VR E x y) : ∀ n, LR E (List.replicate n x) (List.replicate n y)
  | 0 => trivial
  | n + 1 => ⟨h, LR.replicate h n⟩
theorem lr_of_arr {c c' : Array Value} (h : c.size = c'.size) (k : ∀ i (h : i < c.size) (h' : i < c'.size), VR E c[i] c'[i]) : LR E c.toList c'.toList :=
  LR.of_at (by simpa using h) fun i x y hx hy => by
    simp only [Array.getElem?_toList] at hx hy
    obtain ⟨h1, rfl⟩ := Array.getElem?_eq_some_iff.1 hx
    obtain ⟨h2, rfl⟩ := Array.getElem?_eq_some_iff.1 hy
    exact k i h1 h2
theorem arr_of_lr {c c' : Array Value} (h : LR E c.toList c'.toList) : c.size = c'.size ∧ ∀ i (h : i < c.size) (h' : i < c'.size), VR E c[i] c'[i] := by
  refine ⟨by simpa using h.length, fun i h1 h2 => ?_⟩
  obtain ⟨y, hy, hv⟩ := h.at i c[i] (by simp [h1])
  simp only [Array.getElem?_toList] at hy
  obtain ⟨_, rfl⟩ := Array.getElem?_eq_some_iff.1 hy
  exact hv
theorem VR.agg' {c c' : Array Value} (h : LR E c.toList c'.toList) : VR E (.agg c) (.agg c') := .agg c c' (arr_of_lr h).1 (arr_of_lr h).2
theorem VR.tuple' {c c' : Array Value} (h : LR E c.toList c'.toList) : VR E (.tuple c) (.tuple c') := .tuple c c' (arr_of_lr h).1 (arr_of_lr h).2
theorem VR.func' {fn : Fn} {f f' c c' : Array Value} (h : LR E f.toList f'.toList) (k : LR E c.toList c'.toList) : VR E (.func fn f c) (.func fn f' c') :=
  .func fn f f' c c' (arr_of_lr h).1 (arr_of_lr h).2 (arr_of_lr k).1 (arr_of_lr k).2
theorem VR.agg_inv {c : Array Value} {v : Value} (h : VR E (.agg c) v) : ∃ c', v = .agg c' ∧ LR E c.toList c'.toList := by
  cases h with
  | agg c c' h k => exact ⟨c', rfl, lr_of_arr h k⟩
theorem VR.tuple_inv {c : Array Value} {v : Value} (h : VR E (.tuple c) v) : ∃ c', v = .tuple c' ∧ LR E c.toList c'.toList := by
  cases h with
  | tuple c c' h k => exact ⟨c', rfl, lr_of_arr h k⟩
theorem VR.func_inv {fn : Fn} {f c : Array Value} {v : Value} (h : VR E (.func fn f c) v) : ∃ f' c', v = .func fn f' c' ∧ LR E f.toList f'.toList ∧ LR E c.toList c'.toList := by
  cases h with
  | func fn f f' c c' h k h' k' => exact ⟨f', c', rfl, lr_of_arr h k, lr_of_arr h' k'⟩
theorem VR.undef : VR E undef undef := VR.tuple' (c := #[]) (c' := #[]) trivial

/-- the cells of a value -/
theorem VR.cells {v v' : Value} (h : VR E v v') : LR E v.cells.toList v'.cells.toList := by
  cases h with
  | agg c c' h k => exact lr_of_arr h k
  | _ => exact ⟨by first | exact .bool _ | exact .int _ _ | exact .string _ | exact .ptr0 | exact .ptr _ _ _ ‹_› | exact .slice0 _ _ | exact .slice00 _ _ _ | exact .slice _ _ _ _ _ _ ‹_› ‹_› ‹_› ‹_› ‹_› | exact .map0 | exact .map _ _ ‹_› | exact .nilFunc | exact .func _ _ _ _ _ ‹_› ‹_› ‹_› ‹_› | exact .nilIface | exact .iface _ _ _ ‹_› | exact .tuple _ _ ‹_› ‹_›, trivial⟩
theorem VR.one {v v' : Value} (h : VR E v v') : v'.oneCell' = v.oneCell' := by cases h <;> rfl

/-- a value of one cell without names -/
def bare0 : Value → Bool
  | .bool _ | .int _ _ | .string _ | .pointer none | .slice none _ _ | .map none | .nilFunc | .nilIface => true
  | .func _ f c => f.isEmpty && c.isEmpty
  | _ => false
def bare1 : Value → Bool
  | .agg c | .tuple c => c.toList.all bare0
  | .iface _ v => bare0 v
  | v => bare0 v
/-- a value without names, at most three levels deep -/
def bare : Value → Bool
  | .agg c | .tuple c => c.toList.all bare1
  | .iface _ v => bare1 v
  | v => bare0 v

theorem arr_eq_of_lr {xs ys : List Value} (h : LR E xs ys) (he : ∀ x ∈ xs, ∀ y, VR E x y → y = x) : ys = xs := by
  induction xs generalizing ys with
  | nil => cases ys with
    | nil => rfl
    | cons => exact h.elim
  | cons x xs ih => cases ys with
    | nil => exact h.elim
    | cons y ys => rw [he x (by simp) y h.1, ih h.2 fun z hz => he z (by simp [hz])]
theorem bare0_eq {v v' : Value} (hb : bare0 v = true) (h : VR E v v') : v' = v := by
  cases h with
  | func fn f f' c c' h1 k1 h2 k2 =>
    simp only [bare0, Bool.and_eq_true, Array.isEmpty_iff] at hb
    obtain ⟨rfl, rfl⟩ := hb
    have e1 : f' = #[] := Array.eq_empty_of_size_eq_zero (by simpa using h1.symm)
    have e2 : c' = #[] := Array.eq_empty_of_size_eq_zero (by simpa using h2.symm)
    subst e1; subst e2; rfl
  | _ => first | rfl | (simp [bare0] at hb)
theorem bare1_eq {v v' : Value} (hb : bare1 v = true) (h : VR E v v') : v' = v := by
  have h0 := h
  cases h with
  | agg c c' h1 k1 =>
    have e := arr_eq_of_lr (lr_of_arr h1 k1) fun x hx y hy => bare0_eq (List.all_eq_true.1 hb x hx) hy
    rw [Array.toList_inj.1 e]
  | tuple c c' h1 k1 =>
    have e := arr_eq_of_lr (lr_of_arr h1 k1) fun x hx y hy => bare0_eq (List.all_eq_true.1 hb x hx) hy
    rw [Array.toList_inj.1 e]
  | iface t v v' h => rw [bare0_eq (v := v) hb h]
  | _ => exact bare0_eq hb h0
theorem bare_eq {v v' : Value} (hb : bare v = true) (h : VR E v v') : v' = v := by
  have h0 := h
  cases h with
  | agg c c' h1 k1 =>
    have e := arr_eq_of_lr (lr_of_arr h1 k1) fun x hx y hy => bare1_eq (List.all_eq_true.1 hb x hx) hy
    rw [Array.toList_inj.1 e]
  | tuple c c' h1 k1 =>
    have e := arr_eq_of_lr (lr_of_arr h1 k1) fun x hx y hy => bare1_eq (List.all_eq_true.1 hb x hx) hy
    rw [Array.toList_inj.1 e]
  | iface t v v' h => rw [bare1_eq (v := v) hb h]
  | _ => exact bare0_eq hb h0
theorem LR.self {xs : List Value} (h : ∀ x ∈ xs, VR E x x) : LR E xs xs := by
  induction xs with
  | nil => trivial
  | cons x xs ih => exact ⟨h x (by simp), ih fun y hy => h y (by simp [hy])⟩
theorem bare0_self (v : Value) (hb : bare0 v = true) : VR E v v := by
  cases v with
  | bool b => exact .bool b
  | int k n => exact .int k n
  | string s => exact .string s
  | pointer a => cases a with
    | none => exact .ptr0
    | some a => simp [bare0] at hb
  | slice a l c => cases a with
    | none => exact .slice0 l c
    | some a => simp [bare0] at hb
  | map r => cases r with
    | none => exact .map0
    | some a => simp [bare0] at hb
  | nilFunc => exact .nilFunc
  | nilIface => exact .nilIface
  | func fn f c =>
    simp only [bare0, Bool.and_eq_true, Array.isEmpty_iff] at hb
    obtain ⟨rfl, rfl⟩ := hb
    exact VR.func' trivial trivial
  | _ => simp [bare0] at hb
theorem bare1_self (v : Value) (hb : bare1 v = true) : VR E v v := by
  cases v with
  | agg c => exact VR.agg' (LR.self fun x hx => bare0_self x (List.all_eq_true.1 hb x hx))
  | tuple c => exact VR.tuple' (LR.self fun x hx => bare0_self x (List.all_eq_true.1 hb x hx))
  | iface t v => exact .iface t v v (bare0_self v hb)
  | _ => exact bare0_self _ hb
theorem bare_self (v : Value) (hb : bare v = true) : VR E v v := by
  cases v with
  | agg c => exact VR.agg' (LR.self fun x hx => bare1_self x (List.all_eq_true.1 hb x hx))
  | tuple c => exact VR.tuple' (LR.self fun x hx => bare1_self x (List.all_eq_true.1 hb x hx))
  | iface t v => exact .iface t v v (bare1_self v hb)
  | _ => exact bare0_self _ hb
end
end Go.Proofs.YtkekpiillbpciaaGreatDoor.Cx

/- A machine that runs a program's code on written inputs by computation alone, part 2: the kept heap, how it lies in a world, and what a run may change. No condition. -/
namespace Go.Proofs.YtkekpiillbpciaaGreatDoor.Cx
open Go

/-- a kept object -/
inductive AObj where
  | row (cells : List Value) (elem : TypeId) (esz : Nat)
  | map (es : List MapEntry) (clock : Nat)

abbrev Hp := Nat → Option AObj

def ER (E : Em) (a b : MapEntry) : Prop := a.key = b.key ∧ bare a.key = true ∧ VR E a.val b.val ∧ a.born = b.born
def ELR (E : Em) : List MapEntry → List MapEntry → Prop
  | [], [] => True
  | x :: xs, y :: ys => ER E x y ∧ ELR E xs ys
  | _, _ => False
theorem ELR.ext {E E' : Em} (hE : Ext E E') : ∀ {xs ys : List MapEntry}, ELR E xs ys → ELR E' xs ys
  | [], [], _ => trivial
  | _ :: _, _ :: _, h => ⟨⟨h.1.1, h.1.2.1, h.1.2.2.1.ext hE, h.1.2.2.2⟩, ELR.ext hE h.2⟩
  | [], _ :: _, h => h.elim
  | _ :: _, [], h => h.elim

/-- a kept object lies in a world's block -/
def OR (E : Em) (e : Emb) : AObj → Option Obj → Prop
  | .row cs t z, o => e.esz = z ∧ ∃ cur fz, o = some (.cells cur t fz) ∧ cur.size = e.rows ∧ (fz.2 = 0 ∨ cur.size ≤ fz.1) ∧ cs.length ≤ cur.size ∧ LR E cs (cur.toList.take cs.length)
  | .map es c, o => ∃ es', o = some (.map es' c) ∧ ELR E es es'.toList

theorem OR.ext {E E' : Em} (hE : Ext E E') {e : Emb} {a : AObj} {o : Option Obj} (h : OR E e a o) : OR E' e a o := by
  cases a with
  | row cs t z =>
    obtain ⟨hz, cur, fz, h1, h2, h3, h4, h5⟩ := h
    exact ⟨hz, cur, fz, h1, h2, h3, h4, h5.ext hE⟩
  | map es c =>
    obtain ⟨es', h1, h2⟩ := h
    exact ⟨es', h1, h2.ext hE⟩

/-- a kept heap lies in a world -/
structure HR (E : Em) (h : Hp) (w : World) : Prop where
  here : ∀ b o, h b = some o → ∃ e, E b = some e ∧ OR E e o (w.heap[e.blk]?)
  inj : ∀ b c o o' e e', h b = some o → h c = some o' → E b = some e → E c = some e' → e.blk = e'.blk → b = c

theorem OR.some {E : Em} {e : Emb} {a : AObj} {o : Option Obj} (h : OR E e a o) : ∃ x, o = some x := by
  cases a with
  | row cs t z => obtain ⟨_, cur, fz, h1, _⟩ := h; exact ⟨_, h1⟩
  | map es c => obtain ⟨es', h1, _⟩ := h; exact ⟨_, h1⟩
theorem HR.lt {E : Em} {h : Hp} {w : World} (H : HR E h w) {b : Nat} {o : AObj} {e : Emb} (hb : h b = some o) (he : E b = some e) : e.blk < w.heap.size := by
  obtain ⟨e', he', ho⟩ := H.here b o hb
  rw [he] at he'
  cases he'
  obtain ⟨x, hx⟩ := ho.some
  exact (Array.getElem?_eq_some_iff.1 hx).1

/-- a part of a kept heap lies there too -/
theorem HR.sub {E : Em} {h g : Hp} {w : World} (H : HR E h w) (hs : ∀ b o, g b = some o → h b = some o) : HR E g w :=
  ⟨fun b o hb => H.here b o (hs b o hb), fun b c o o' e e' hb hc => H.inj b c o o' e e' (hs b o hb) (hs c o' hc)⟩

/-- what a run from (E, h, w) to (E', h', w') that makes the names from n to n' and touches the names of l may change -/
structure Tx (E : Em) (h : Hp) (w : World) (n : Nat) (E' : Em) (h' : Hp) (w' : World) (n' : Nat) (l : List Nat) : Prop where
  le : n ≤ n'
  ext : Ext E E'
  dom : ∀ b e, E' b = some e → E b = some e ∨ (n ≤ b ∧ b < n')
  hr : HR E' h' w'
  keep : ∀ b, b < n ∨ n' ≤ b → b ∉ l → h' b = h b
  domle : ∀ b o, h' b = some o → (∃ o', h b = some o') ∨ (n ≤ b ∧ b < n')
  news : ∀ b o e, n ≤ b → b < n' → h' b = some o → E' b = some e → w.heap.size ≤ e.blk ∨ ∃ c o' e', h c = some o' ∧ E c = some e' ∧ e'.blk = e.blk
  frame : ∀ k, k < w.heap.size → (∀ b o e, h b = some o → E b = some e → e.blk ≠ k) → w'.heap[k]? = w.heap[k]?
  size : w.heap.size ≤ w'.heap.size
  os : w'.os = w.os
  tape : w'.tape = w.tape
  output : w'.output = w.output

theorem Tx.refl {E : Em} {h : Hp} {w : World} (n : Nat) (H : HR E h w) : Tx E h w n E h w n [] :=
  ⟨Nat.le_refl _, .refl E, fun _ _ h => .inl h, H, fun _ _ _ => rfl, fun _ o h => .inl ⟨o, h⟩, fun _ _ _ h1 h2 => absurd (Nat.lt_of_le_of_lt h1 h2) (Nat.lt_irrefl _), fun _ _ _ => rfl, Nat.le_refl _, rfl, rfl, rfl⟩

theorem Tx.trans {E E1 E2 : Em} {h h1 h2 : Hp} {w w1 w2 : World} {n n1 n2 : Nat} {l l1 : List Nat}
    (A : Tx E h w n E1 h1 w1 n1 l) (B : Tx E1 h1 w1 n1 E2 h2 w2 n2 l1) : Tx E h w n E2 h2 w2 n2 (l1 ++ l) := by
  have le1 := A.le
  have le2 := B.le
  refine ⟨Nat.le_trans A.le B.le, A.ext.trans B.ext, ?_, B.hr, ?_, ?_, ?_, ?_, Nat.le_trans A.size B.size, B.os.trans A.os, B.tape.trans A.tape, B.output.trans A.output⟩
  · intro b e hb
    rcases B.dom b e hb with hb | hb
    · rcases A.dom b e hb with hb | hb
      · exact .inl hb
      · exact .inr ⟨hb.1, by omega⟩
    · exact .inr ⟨by omega, hb.2⟩
  · intro b hb hl
    simp only [List.mem_append, not_or] at hl
    rw [B.keep b (by omega) hl.1, A.keep b (by omega) hl.2]
  · intro b o hb
    rcases B.domle b o hb with ⟨o', hb⟩ | hb
    · rcases A.domle b o' hb with hb | hb
      · exact .inl hb
      · exact .inr ⟨hb.1, by omega⟩
    · exact .inr ⟨by omega, hb.2⟩
  · intro b o e hb0 hb1 hb he
    by_cases hlt : b < n1
    · rcases B.domle b o hb with ⟨o', ho'⟩ | hx
      · rcases B.dom b e he with he1 | hx
        · exact A.news b o' e hb0 hlt ho' he1
        · omega
      · omega
    · rcases B.news b o e (by omega) hb1 hb he with hx | ⟨c, o', e', hc, hec, hblk⟩
      · exact .inl (Nat.le_trans A.size hx)
      · by_cases hcn : n ≤ c ∧ c < n1
        · rcases A.news c o' e' hcn.1 hcn.2 hc hec with hx | ⟨c', o'', e'', h1, h2, h3⟩
          · exact .inl (hblk ▸ hx)
          · exact .inr ⟨c', o'', e'', h1, h2, h3.trans hblk⟩
        · rcases A.domle c o' hc with ⟨o'', hc'⟩ | hx
          · rcases A.dom c e' hec with hec' | hx
            · exact .inr ⟨c, o'', e', hc', hec', hblk⟩
            · exact absurd hx hcn
          · exact absurd hx hcn
  · intro k hk hkk
    rw [B.frame k (Nat.lt_of_lt_of_le hk A.size) ?_, A.frame k hk hkk]
    intro b o e hb he hblk
    by_cases hbn : n ≤ b ∧ b < n1
    · rcases A.news b o e hbn.1 hbn.2 hb he with hx | ⟨c, o', e', h1', h2', h3'⟩
      · omega
      · exact hkk c o' e' h1' h2' (h3'.trans hblk)
    · rcases A.domle b o hb with ⟨o', hb'⟩ | hx
      · rcases A.dom b e he with he' | hx
        · exact hkk b o' e hb' he' hblk
        · exact hbn hx
      · exact hbn hx

/-- another count of draws -/
theorem HR.world {E : Em} {h : Hp} {w w' : World} (H : HR E h w) (hw : w'.heap = w.heap) : HR E h w' :=
  ⟨fun b o hb => by rw [hw]; exact H.here b o hb, H.inj⟩
theorem Tx.drewR {E E' : Em} {h h' : Hp} {w w' : World} {n n' : Nat} {l : List Nat} (A : Tx E h w n E' h' w' n' l) (d : Nat) : Tx E h w n E' h' { w' with drawn := d } n' l :=
  ⟨A.le, A.ext, A.dom, A.hr.world rfl, A.keep, A.domle, A.news, A.frame, A.size, A.os, A.tape, A.output⟩
theorem Tx.drewL {E E' : Em} {h h' : Hp} {w w' : World} {n n' : Nat} {l : List Nat} {d : Nat} (A : Tx E h { w with drawn := d } n E' h' w' n' l) : Tx E h w n E' h' w' n' l :=
  ⟨A.le, A.ext, A.dom, A.hr, A.keep, A.domle, A.news, A.frame, A.size, A.os, A.tape, A.output⟩
theorem Tx.weaken {E E' : Em} {h h' : Hp} {w w' : World} {n n' : Nat} {l l' : List Nat} (A : Tx E h w n E' h' w' n' l) (hl : ∀ b ∈ l, b ∈ l') : Tx E h w n E' h' w' n' l' :=
  ⟨A.le, A.ext, A.dom, A.hr, fun b hb hn => A.keep b hb fun hx => hn (hl b hx), A.domle, A.news, A.frame, A.size, A.os, A.tape, A.output⟩

def upd (h : Hp) (n : Nat) (o : Option AObj) : Hp := fun b => if b = n then o else h b
def updE (E : Em) (n : Nat) (e : Emb) : Em := fun b => if b = n then some e else E b
theorem updE_ext {E : Em} {n : Nat} {e : Emb} (hn : E n = none) : Ext E (updE E n e) := by
  intro b e' hb
  unfold updE
  split
  · rename_i hx; subst hx; rw [hn] at hb; cases hb
  · exact hb

/-- a new object in a new block -/
theorem Tx.new {E : Em} {h : Hp} {w : World} {n : Nat} (H : HR E h w) (hn : E n = none) {e : Emb} (he : e.blk = w.heap.size) {a : AObj} {o : Obj} (ho : OR E e a (some o)) :
    Tx E h w n (updE E n e) (upd h n (some a)) { w with heap := w.heap.push o } (n + 1) [] := by
  have hext : Ext E (updE E n e) := updE_ext hn
  have hold : ∀ b o' e', h b = some o' → E b = some e' → e'.blk < w.heap.size := fun b o' e' hb hb' => H.lt hb hb'
  have hhn : ∀ o', h n ≠ some o' := fun o' hx => by obtain ⟨e', he', _⟩ := H.here n o' hx; rw [hn] at he'; cases he'
  refine ⟨Nat.le_succ n, hext, ?_, ⟨?_, ?_⟩, ?_, ?_, ?_, ?_, by simp, rfl, rfl, rfl⟩
  · intro b e' hb
    unfold updE at hb
    split at hb
    · exact .inr (by omega)
    · exact .inl hb
  · intro b o' hb
    unfold upd at hb
    split at hb
    · rename_i hx
      subst hx
      cases hb
      refine ⟨e, by simp [updE], ?_⟩
      rw [he]
      simpa using ho.ext hext
    · obtain ⟨e', he', ho'⟩ := H.here b o' hb
      refine ⟨e', hext _ _ he', ?_⟩
      have hlt := H.lt hb he'
      have : (w.heap.push o)[e'.blk]? = w.heap[e'.blk]? := by simp [Array.getElem?_push, Nat.ne_of_lt hlt]
      simp only [this]
      exact ho'.ext hext
  · intro b c o1 o2 e1 e2 hb hc he1 he2 hblk
    unfold upd at hb hc
    unfold updE at he1 he2
    split at hb <;> split at hc
    · omega
    · rename_i h1 h2
      rw [if_pos h1] at he1
      rw [if_neg h2] at he2
      cases he1
      have := hold c o2 e2 hc he2
      omega
    · rename_i h1 h2
      rw [if_neg h1] at he1
      rw [if_pos h2] at he2
      cases he2
      have := hold b o1 e1 hb he1
      omega
    · rename_i h1 h2
      rw [if_neg h1] at he1
      rw [if_neg h2] at he2
      exact H.inj b c o1 o2 e1 e2 hb hc he1 he2 hblk
  · intro b hb _
    unfold upd
    rw [if_neg (by omega)]
  · intro b o' hb
    unfold upd at hb
    split at hb
    · exact .inr (by omega)
    · exact .inl ⟨o', hb⟩
  · intro b o' e' h1 h2 _ he'
    have : b = n := by omega
    subst this
    simp [updE] at he'
    subst he'
    exact .inl (by omega)
  · intro k hk _
    simp [Array.getElem?_push, Nat.ne_of_lt hk]

/-- the object of a name is put anew, in its block -/
theorem Tx.put {E : Em} {h : Hp} {w : World} {n b : Nat} (H : HR E h w) {e : Emb} (he : E b = some e) {a0 a : AObj} (hb : h b = some a0) {o : Obj} (ho : OR E e a (some o)) :
    Tx E h w n E (upd h b (some a)) { w with heap := w.heap.setIfInBounds e.blk o } n [b] := by
  have hlt := H.lt hb he
  refine ⟨Nat.le_refl n, .refl E, fun _ _ h => .inl h, ⟨?_, ?_⟩, ?_, ?_, fun _ _ _ h1 h2 => absurd (Nat.lt_of_le_of_lt h1 h2) (Nat.lt_irrefl _), ?_, by simp, rfl, rfl, rfl⟩
  · intro c o' hc
    unfold upd at hc
    split at hc
    · rename_i hx
      subst hx
      cases hc
      exact ⟨e, he, by simpa [hlt] using ho⟩
    · rename_i hx
      obtain ⟨e', he', ho'⟩ := H.here c o' hc
      refine ⟨e', he', ?_⟩
      have hne : e.blk ≠ e'.blk := fun hq => hx (H.inj c b o' a0 e' e hc hb he' he hq.symm)
      simpa [Array.getElem?_setIfInBounds_ne hne] using ho'
  · intro c d o1 o2 e1 e2 hc hd he1 he2 hblk
    unfold upd at hc hd
    have key : ∀ c o1, (if c = b then some a else h c) = some o1 → ∃ o, h c = some o := by
      intro c o1 hc
      by_cases hx : c = b
      · exact ⟨a0, by rw [hx]; exact hb⟩
      · rw [if_neg hx] at hc; exact ⟨_, hc⟩
    have hc' := key c o1 hc
    have hd' := key d o2 hd
    obtain ⟨o3, h3⟩ := hc'
    obtain ⟨o4, h4⟩ := hd'
    exact H.inj c d o3 o4 e1 e2 h3 h4 he1 he2 hblk
  · intro c _ hc
    unfold upd
    rw [if_neg (by simpa using hc)]
  · intro c o' hc
    unfold upd at hc
    split at hc
    · rename_i hx; exact .inl ⟨a0, by rw [hx]; exact hb⟩
    · exact .inl ⟨o', hc⟩
  · intro k _ hkk
    exact Array.getElem?_setIfInBounds_ne (hkk b a0 e hb he)

/-- a name is let go; its block may hold anything -/
theorem Tx.letgo {E : Em} {h : Hp} {w : World} {n b : Nat} (H : HR E h w) {e : Emb} (he : E b = some e) {a0 : AObj} (hb : h b = some a0) (o : Obj) :
    Tx E h w n E (upd h b none) { w with heap := w.heap.setIfInBounds e.blk o } n [b] := by
  have key : ∀ c o1, upd h b none c = some o1 → c ≠ b ∧ h c = some o1 := by
    intro c o1 hc
    unfold upd at hc
    split at hc
    · cases hc
    · rename_i hx; exact ⟨hx, hc⟩
  refine ⟨Nat.le_refl n, .refl E, fun _ _ h => .inl h, ⟨?_, ?_⟩, ?_, ?_, fun _ _ _ h1 h2 => absurd (Nat.lt_of_le_of_lt h1 h2) (Nat.lt_irrefl _), ?_, by simp, rfl, rfl, rfl⟩
  · intro c o' hc
    obtain ⟨hx, hc⟩ := key c o' hc
    obtain ⟨e', he', ho'⟩ := H.here c o' hc
    refine ⟨e', he', ?_⟩
    have hne : e.blk ≠ e'.blk := fun hq => hx (H.inj c b o' a0 e' e hc hb he' he hq.symm)
    simpa [Array.getElem?_setIfInBounds_ne hne] using ho'
  · intro c d o1 o2 e1 e2 hc hd he1 he2 hblk
    exact H.inj c d o1 o2 e1 e2 (key c o1 hc).2 (key d o2 hd).2 he1 he2 hblk
  · intro c _ hc
    unfold upd
    rw [if_neg (by simpa using hc)]
  · intro c o' hc
    exact .inl ⟨o', (key c o' hc).2⟩
  · intro k _ hkk
    exact Array.getElem?_setIfInBounds_ne (hkk b a0 e hb he)

/-- the object of a name is taken over by a new name, in the same block -/
theorem Tx.take {E : Em} {h : Hp} {w : World} {n b : Nat} (H : HR E h w) (hn : E n = none) {e : Emb} (he : E b = some e) {a0 a : AObj} (hb : h b = some a0) {o : Obj} (ho : OR E e a (some o)) :
    Tx E h w n (updE E n e) (upd (upd h b none) n (some a)) { w with heap := w.heap.setIfInBounds e.blk o } (n + 1) [b] := by
  have hext : Ext E (updE E n e) := updE_ext hn
  have hlt := H.lt hb he
  have hbn : b ≠ n := fun hx => by subst hx; rw [hn] at he; cases he
  refine ⟨Nat.le_succ n, hext, ?_, ⟨?_, ?_⟩, ?_, ?_, ?_, ?_, by simp, rfl, rfl, rfl⟩
  · intro c e' hc
    unfold updE at hc
    split at hc
    · exact .inr (by omega)
    · exact .inl hc
  · intro c o' hc
    unfold upd at hc
    split at hc
    · rename_i hx
      subst hx
      cases hc
      refine ⟨e, by simp [updE], ?_⟩
      simpa [hlt] using ho.ext hext
    · split at hc
      · cases hc
      · rename_i _ hx
        obtain ⟨e', he', ho'⟩ := H.here c o' hc
        refine ⟨e', hext _ _ he', ?_⟩
        have hne : e.blk ≠ e'.blk := fun hq => hx (H.inj c b o' a0 e' e hc hb he' he hq.symm)
        simpa [Array.getElem?_setIfInBounds_ne hne] using ho'.ext hext
  · have key : ∀ c o1 e1, upd (upd h b none) n (some a) c = some o1 → updE E n e c = some e1 → c ≠ n → c ≠ b ∧ h c = some o1 ∧ E c = some e1 := by
      intro c o1 e1 hc hec hcn
      unfold upd at hc
      rw [if_neg hcn] at hc
      unfold updE at hec
      rw [if_neg hcn] at hec
      split at hc
      · cases hc
      · rename_i hx; exact ⟨hx, hc, hec⟩
    intro c d o1 o2 e1 e2 hc hd he1 he2 hblk
    by_cases hcn : c = n
    · by_cases hdn : d = n
      · omega
      · obtain ⟨k1, k2, k3⟩ := key d o2 e2 hd he2 hdn
        subst hcn
        simp [updE] at he1
        subst he1
        exact absurd (H.inj b d a0 o2 e e2 hb k2 he k3 hblk).symm k1
    · obtain ⟨k1, k2, k3⟩ := key c o1 e1 hc he1 hcn
      by_cases hdn : d = n
      · subst hdn
        simp [updE] at he2
        subst he2
        exact absurd (H.inj c b o1 a0 e1 e k2 hb k3 he hblk) k1
      · obtain ⟨_, m2, m3⟩ := key d o2 e2 hd he2 hdn
        exact H.inj c d o1 o2 e1 e2 k2 m2 k3 m3 hblk
  · intro c hc hcl
    unfold upd
    rw [if_neg (by omega), if_neg (by simpa using hcl)]
  · intro c o' hc
    unfold upd at hc
    split at hc
    · exact .inr (by omega)
    · split at hc
      · cases hc
      · exact .inl ⟨o', hc⟩
  · intro c o' e' h1 h2 _ he'
    have : c = n := by omega
    subst this
    simp [updE] at he'
    subst he'
    exact .inr ⟨b, a0, e, hb, he, rfl⟩
  · intro k _ hkk
    exact Array.getElem?_setIfInBounds_ne (hkk b a0 e hb he)
end Go.Proofs.YtkekpiillbpciaaGreatDoor.Cx

/- A machine that runs a program's code on written inputs by computation alone, part 3: the machine itself. No condition. -/
namespace Go.Proofs.YtkekpiillbpciaaGreatDoor.Cx
open Go

/-- what a piece of the model's text yields without looking at the world -/
def pureRun (P : Program) {α : Type} : Sem α → Option α
  | .pure a => some a
  | .program k => pureRun P (k P)
  | .mark _ k => pureRun P k
  | _ => none

structure HS where
  heap : Tr AObj
  next : Nat
  log : List Nat

structure AF where
  tmps : Tr Value
  size : Nat
  defers : List (FuncId × List Value)

inductive AX where
  | normal
  | exit (id : Nat)
  | ret

def lim : Nat := 2 ^ 30

def HS.at (s : HS) (b : Nat) : Option AObj := s.heap.get b
def forceO {β : Type} (o : AObj) (k : AObj → β) : β := match o with
  | .row cs e z => forceVs cs fun cs => k (.row cs e z)
  | o => k o
theorem forceO_eq {β : Type} (o : AObj) (k : AObj → β) : forceO o k = k o := by
  unfold forceO
  split
  · exact forceVs_eq _ _
  · rfl
def HS.new (s : HS) (o : AObj) : Option HS := match s with
  | ⟨h, nx, lg⟩ => match Nat.ble nx lim with
    | true => forceO o fun o => setK deep h nx (some o) fun h => forceN (nx + 1) fun nx => some ⟨h, nx, lg⟩
    | false => none
def HS.put (s : HS) (b : Nat) (o : AObj) : Option HS := match s with
  | ⟨h, nx, lg⟩ => match Nat.ble b lim with
    | true => setK deep h b (some o) fun h => some ⟨h, nx, b :: lg⟩
    | false => none
def HS.take (s : HS) (b : Nat) (o : AObj) : Option HS := match s with
  | ⟨h, nx, lg⟩ => match Nat.ble b lim, Nat.ble nx lim with
    | true, true => setK deep h b none fun h => setK deep h nx (some o) fun h => forceN (nx + 1) fun nx => some ⟨h, nx, b :: lg⟩
    | _, _ => none
def HS.drop (s : HS) (b : Nat) : Option HS := match s with
  | ⟨h, nx, lg⟩ => match Nat.ble b lim with
    | true => setK deep h b none fun h => some ⟨h, nx, b :: lg⟩
    | false => none
theorem HS.drop_old (s : HS) (b : Nat) : s.drop b = match Nat.ble b lim with
    | true => some ⟨s.heap.set deep b none, s.next, b :: s.log⟩
    | false => none := by
  obtain ⟨h, nx, lg⟩ := s
  simp only [HS.drop, setK_eq]
theorem HS.new_old (s : HS) (o : AObj) : s.new o = match Nat.ble s.next lim with
    | true => some ⟨s.heap.set deep s.next (some o), s.next + 1, s.log⟩
    | false => none := by
  obtain ⟨h, nx, lg⟩ := s
  simp only [HS.new, forceO_eq, setK_eq, forceN_eq]
theorem HS.put_old (s : HS) (b : Nat) (o : AObj) : s.put b o = match Nat.ble b lim with
    | true => some ⟨s.heap.set deep b (some o), s.next, b :: s.log⟩
    | false => none := by
  obtain ⟨h, nx, lg⟩ := s
  simp only [HS.put, setK_eq]
theorem HS.take_old (s : HS) (b : Nat) (o : AObj) : s.take b o = match Nat.ble b lim, Nat.ble s.next lim with
    | true, true => some ⟨(s.heap.set deep b none).set deep s.next (some o), s.next + 1, b :: s.log⟩
    | _, _ => none := by
  obtain ⟨h, nx, lg⟩ := s
  simp only [HS.take, setK_eq, forceN_eq]

def AF.get (f : AF) (t : Nat) : Value := (f.tmps.get t).getD undef
def AF.put (f : AF) (t : Nat) (v : Value) : Option AF := match f with
  | ⟨tm, sz, df⟩ => match Nat.blt t sz, Nat.ble t lim with
    | true, true => forceV v fun v => setK deep tm t (some v) fun tm => some ⟨tm, sz, df⟩
    | _, _ => none
theorem AF.put_old (f : AF) (t : Nat) (v : Value) : f.put t v = match Nat.blt t f.size, Nat.ble t lim with
    | true, true => some ⟨f.tmps.set deep t (some v), f.size, f.defers⟩
    | _, _ => none := by
  obtain ⟨tm, sz, df⟩ := f
  simp only [AF.put, forceV_eq, setK_eq]
def AF.putO (f : AF) (t : Option Nat) (v : Value) : Option AF := match t with
  | none => some f
  | some t => f.put t v

def ev (f : AF) : Operand → Value
  | .tmp t => f.get t
  | .const v => v
  | .global g => .pointer (some ⟨g, 0, none⟩)
  | .func f => .func (.func f) #[] #[]
/-- a call whose outcome is known: the kept heap that it looks at, the names that it makes, its result and what it leaves -/
structure Known where
  fn : Nat
  args : List Value
  inH : List (Nat × AObj)
  n0 : Nat
  v : Value
  outH : List (Nat × AObj)
  n1 : Nat
structure Gl where
  vars : List Nat
  known : List Known
/-- an operand that may be read: a written value without names -/
def okOp (G : Gl) : Operand → Bool
  | .tmp _ => true
  | .const v => bare v
  | .global g => G.vars.contains g
  | .func _ => true

def allL (G : Gl) : List Operand → Bool
  | [] => true
  | x :: r => match okOp G x with
    | true => allL G r
    | false => false
def okO (G : Gl) : Option Operand → Bool
  | none => true
  | some x => okOp G x
def allP (G : Gl) : List (Nat × Operand) → Bool
  | [] => true
  | x :: r => match okOp G x.2 with
    | true => allP G r
    | false => false
/-- may all operands be read? -/
def allOk (G : Gl) (op : Op) : Bool := match op with
  | .move x => okOp G x
  | .assign x => okOp G x
  | .load _ x => okOp G x
  | .store _ x y => okOp G x && okOp G y
  | .binOp _ _ x y _ => okOp G x && okOp G y
  | .fieldAddr _ x _ => okOp G x
  | .indexAddr _ x y => okOp G x && okOp G y
  | .index _ x y => okOp G x && okOp G y
  | .field _ x _ => okOp G x
  | .extract x _ => okOp G x
  | .pick c x y => okOp G c && (okOp G x && okOp G y)
  | .nilCheck x => okOp G x
  | .unOp _ _ x => okOp G x
  | .convert _ _ x => okOp G x
  | .makeInterface _ x => okOp G x
  | .typeAssert x _ _ _ => okOp G x
  | .box _ x => okOp G x
  | .alloc _ => true
  | .lookup _ x y _ => okOp G x && okOp G y
  | .slice _ x l h m => okOp G x && (okO G l && (okO G h && okO G m))
  | .build _ ps => allP G ps.toList
  | .buildSlice _ _ ps => allP G ps.toList
  | .call c => allL G (match c.callee with | .value f => f :: c.args.toList | .invoke r _ => r :: c.args.toList | .builtin _ => c.args.toList)
  | op => op.operands.all (okOp G)
theorem allP_eq (G : Gl) : ∀ l : List (Nat × Operand), allP G l = (l.map (·.2)).all (okOp G)
  | [] => rfl
  | x :: r => by
    simp only [allP, List.map_cons, List.all_cons, allP_eq G r]
    cases okOp G x.2 <;> rfl
theorem allL_eq (G : Gl) : ∀ l : List Operand, allL G l = l.all (okOp G)
  | [] => rfl
  | x :: r => by
    simp only [allL, List.all_cons, allL_eq G r]
    cases okOp G x <;> rfl
theorem allOk_eq (G : Gl) (op : Op) : allOk G op = op.operands.all (okOp G) := by
  cases op <;> first | rfl | (simp [allOk, Op.operands]; done) | (simp [allOk, Op.operands, allP_eq]; done) | skip
  · rename_i t x l h m
    cases l <;> cases h <;> cases m <;> simp [allOk, Op.operands, okO, Bool.and_assoc]
  · rename_i c
    obtain ⟨callee, args, ts⟩ := c
    cases callee <;> simp [allOk, Op.operands, Call.operands, allL_eq]

def sizeT (P : Program) (t : TypeId) : Option Nat := match P.info? t with
  | some i => some i.size
  | none => none
def aggT (P : Program) (t : TypeId) : Option Bool := match P.underlying t with
  | some (.struct _) => some true
  | some (.array _ _) => some true
  | some _ => some false
  | none => none
def partA (P : Program) (t : TypeId) (cs : Array Value) (off : Nat) : Option Value := match aggT P t with
  | some true => match sizeT P t with
    | some n => match Nat.ble (off + n) cs.size with
      | true => some (.agg (cs.extract off (off + n)))
      | false => none
    | none => none
  | some false => cs[off]?
  | none => none

def inRange (i : Int) (n : Nat) : Option Nat := match i with
  | .ofNat m => match Nat.blt m n with
    | true => some m
    | false => none
  | .negSucc _ => none
def upTo (i : Int) (n : Nat) : Option Nat := match i with
  | .ofNat m => match Nat.ble m n with
    | true => some m
    | false => none
  | .negSucc _ => none

def fieldAddrA (P : Program) (t : TypeId) (x : Value) (i : Nat) : Option Value := match P.underlying t, x with
  | some (.struct fs), .pointer (some ⟨b, o, none⟩) => match fs[i]? with
    | some fd => match sizeT P fd.type with
      | some (_ + 1) => some (.pointer (some ⟨b, o + fd.offset, none⟩))
      | _ => none
    | none => none
  | _, _ => none
def indexAddrA (P : Program) (t : TypeId) (x ix : Value) : Option Value := match P.underlying t, x, ix with
  | some (.slice e), .slice (some ⟨b, o, none⟩) n _, .int _ i => match inRange i n, sizeT P e with
    | some j, some z => some (.pointer (some ⟨b, o + j * z, none⟩))
    | _, _ => none
  | some (.array n e), .pointer (some ⟨b, o, none⟩), .int _ i => match inRange i n, sizeT P e with
    | some j, some z => some (.pointer (some ⟨b, o + j * z, none⟩))
    | _, _ => none
  | _, _, _ => none
def fieldA (P : Program) (t : TypeId) (x : Value) (i : Nat) : Option Value := match P.underlying t, x with
  | some (.struct fs), .agg cs => match fs[i]? with
    | some fd => partA P fd.type cs fd.offset
    | none => none
  | _, _ => none
def indexA (P : Program) (t : TypeId) (x ix : Value) : Option Value := match P.underlying t, x, ix with
  | some (.array n e), .agg cs, .int _ i => match inRange i n, sizeT P e with
    | some j, some z => partA P e cs (j * z)
    | _, _ => none
  | _, _, _ => none

/-- the bounds of a slice expression over n elements of which m may be reached -/
def boundA (x : Option Value) (d n : Nat) : Option Nat := match x with
  | none => some d
  | some (.int _ i) => upTo i n
  | some _ => none
def topOf (c n : Nat) : Nat := match Nat.beq c unk with
  | true => n
  | false => c
/-- the place of an empty slice whose place hangs on a capacity that is not known -/
def unkO : Option Addr := some ⟨0, 0, some 0⟩
def sliceA (P : Program) (s : HS) (t : TypeId) (x : Value) (lo hi mx : Option Value) : Option Value := match P.underlying t, x with
  | some (.slice e), .slice (some ⟨b, o, none⟩) n c => match s.heap.get b with
    | some (.row _ _ z0) => match sizeT P e with
      | some z => match Nat.beq z0 z || Nat.beq z0 0 with
        | true => match mx with
          | none => match boundA hi n (topOf c n) with
            | some h => match boundA lo 0 h with
              | some l => match Nat.beq c unk with
                | true => match Nat.blt l n || Nat.beq l 0 with
                  | true => some (.slice (some ⟨b, o + l * z, none⟩) (h - l) unk)
                  | false => some (.slice unkO 0 unk)
                | false => match Nat.beq c l with
                  | true => some (.slice (some ⟨b, o, none⟩) (h - l) 0)
                  | false => some (.slice (some ⟨b, o + l * z, none⟩) (h - l) (c - l))
              | none => none
            | none => none
          | some (.int _ m) => match upTo m (topOf c n), hi with
            | some m, some h => match boundA (some h) 0 m with
              | some h => match boundA lo 0 h with
                | some l => match Nat.beq m l with
                  | true => some (.slice (some ⟨b, o, none⟩) (h - l) 0)
                  | false => some (.slice (some ⟨b, o + l * z, none⟩) (h - l) (m - l))
                | none => none
              | none => none
            | _, _ => none
          | _ => none
        | false => none
      | none => none
    | _ => none
  | some (.slice e), .slice none 0 0 => match sizeT P e, mx with
    | some _, none => match boundA hi 0 0, boundA lo 0 0 with
      | some _, some _ => some (.slice none 0 0)
      | _, _ => none
    | _, _ => none
  | some (.array n e), .pointer (some ⟨b, o, none⟩) => match s.heap.get b, mx, sizeT P e, Nat.ble n lim with
    | some (.row _ _ 0), none, some z, true => match boundA hi n n with
      | some h => match boundA lo 0 h with
        | some l => match Nat.beq n l with
          | true => some (.slice (some ⟨b, o, none⟩) (h - l) 0)
          | false => some (.slice (some ⟨b, o + l * z, none⟩) (h - l) (n - l))
        | none => none
      | none => none
    | _, _, _, _ => none
  | _, _ => none

def buildA (P : Program) (t : TypeId) (parts : Array (Nat × Value)) : Option Value := match P.info? t with
  | some i => match i.zero with
    | some z => match bare z with
      | true => match P.underlying t with
        | some (.struct fs) => match fs.toList.mapM (fun f => (sizeT P f.type).map fun n => (f.offset, n)) with
          | some pl => match Instr.fill (pl[·]?) z.cells parts.toList with
            | some cs => some (.agg cs)
            | none => none
          | none => none
        | some (.array _ e) => match sizeT P e with
          | some n => match Instr.fill (fun i => some (i * n, n)) z.cells parts.toList with
            | some cs => some (.agg cs)
            | none => none
          | none => none
        | _ => none
      | false => none
    | none => none
  | none => none

/-- parts laid into cells, as the kernel does it fast -/
def fillL (pl : List (Nat × Nat)) : List (Nat × Value) → List Value → Option (List Value)
  | [], cs => some cs
  | (i, v) :: r, cs => match nth pl i with
    | some (off, size) => match lenIs size v.cells.toList && leLen (off + size) cs with
      | true => fillL pl r (spliceN v.cells.toList off cs)
      | false => none
    | none => none
def buildF (P : Program) (t : TypeId) (ps : List (Nat × Value)) : Option Value := match P.underlying t with
  | some (.struct fs) => match P.info? t with
    | some i => match i.zero with
      | some z => match bare z with
        | true => match fs.toList.mapM (fun f => (sizeT P f.type).map fun n => (f.offset, n)) with
          | some pl => match fillL pl ps z.cells.toList with
            | some cs => some (.agg ⟨cs⟩)
            | none => none
          | none => none
        | false => none
      | none => none
    | none => none
  | _ => buildA P t ps.toArray
def byteList (s : ByteArray) : List UInt8 := s.data.toList
def bytesBeq : List UInt8 → List UInt8 → Bool
  | [], [] => true
  | a :: x, b :: y => match Nat.beq a.toNat b.toNat with
    | true => bytesBeq x y
    | false => false
  | _, _ => false
def bytesLess : List UInt8 → List UInt8 → Bool
  | _, [] => false
  | [], _ :: _ => true
  | a :: x, b :: y => match Nat.blt a.toNat b.toNat with
    | true => true
    | false => match Nat.beq a.toNat b.toNat with
      | true => bytesLess x y
      | false => false
def stringA (op : BinOp) (x y : ByteArray) : Option Value := match op with
  | .add => match Nat.ble (x.size + y.size) lim with
    | true => some (.string ⟨(x.data.toList ++ y.data.toList).toArray⟩)
    | false => none
  | .eql => some (.bool (bytesBeq (byteList x) (byteList y)))
  | .neq => some (.bool (!bytesBeq (byteList x) (byteList y)))
  | .lss => some (.bool (bytesLess (byteList x) (byteList y)))
  | .leq => some (.bool (bytesLess (byteList x) (byteList y) || bytesBeq (byteList x) (byteList y)))
  | .gtr => some (.bool (!(bytesLess (byteList x) (byteList y) || bytesBeq (byteList x) (byteList y))))
  | .geq => some (.bool (!bytesLess (byteList x) (byteList y)))
  | _ => none
/-- equality with nil, and of equal parts that hold names -/
def eqNil (d : TypeDesc) (x y : Value) : Option Bool := match d, x, y with
  | .pointer _, .pointer (some _), .pointer none => some false
  | .pointer _, .pointer none, .pointer (some _) => some false
  | .slice _, .slice (some _) _ _, .slice none _ _ => some false
  | .slice _, .slice none _ _, .slice (some _) _ _ => some false
  | .map _ _, .map (some _), .map none => some false
  | .map _ _, .map none, .map (some _) => some false
  | .func _ _ _, .nilFunc, .func _ _ _ => some false
  | .func _ _ _, .func _ _ _, .nilFunc => some false
  | .interface _, .nilIface, .iface _ _ => some false
  | .interface _, .iface _ _, .nilIface => some false
  | _, _, _ => none
def topK : IntKind → Nat
  | .i8 => 127
  | .u8 => 255
  | .i16 => 32767
  | .u16 => 65535
  | .i32 => 2147483647
  | .u32 => 4294967295
  | .i64 => 9223372036854775807
  | .u64 => 18446744073709551615
def intK (k : IntKind) (n : Nat) : Option Value := match Nat.ble n (topK k) with
  | true => some (.int k (.ofNat n))
  | false => none
/-- numbers that are not negative -/
def natBin (op : BinOp) (k : IntKind) (a b : Nat) : Option Value := match op with
  | .add => intK k (a + b)
  | .sub => match Nat.ble b a with
    | true => intK k (a - b)
    | false => none
  | .mul => intK k (a * b)
  | .lss => some (.bool (Nat.blt a b))
  | .leq => some (.bool (Nat.ble a b))
  | .gtr => some (.bool (Nat.blt b a))
  | .geq => some (.bool (Nat.ble b a))
  | .eql => some (.bool (Nat.beq a b))
  | .neq => some (.bool (!Nat.beq a b))
  | _ => none
/-- one pointer twice -/
def samePtr (P : Program) (d : TypeDesc) (u v : Value) : Bool := match d, u, v with
  | .pointer te, .pointer (some ⟨a, o, none⟩), .pointer (some ⟨b, p, none⟩) => match P.info? te with
    | some _ => Nat.beq a b && Nat.beq o p
    | none => false
  | _, _, _ => false
def binSlow (P : Program) (o : Oper) (op : BinOp) (t : TypeId) (f : AF) (u v : Value) : Option Value := match bare u && bare v with
  | true => match pureRun P (execOp (ev f) o) with
    | some (.value r) => match bare r with
      | true => some r
      | false => none
    | _ => none
  | false => match P.underlying t with
    | some d => match samePtr P d u v with
      | true => match op with
        | .neq => some (.bool false)
        | _ => none
      | false => match op, eqNil d u v with
        | .eql, some b => some (.bool b)
        | .neq, some b => some (.bool (!b))
        | _, _ => none
    | none => none
def natPair (x y : Value) : Option (IntKind × Nat × Nat) := match x with
  | .int k i => match i with
    | .ofNat a => match y with
      | .int k' j => match j with
        | .ofNat b => match Nat.beq k.ctorIdx k'.ctorIdx with
          | true => some (k, a, b)
          | false => none
        | _ => none
      | _ => none
    | _ => none
  | _ => none
def strPair (x y : Value) : Option (ByteArray × ByteArray) := match x with
  | .string a => match y with
    | .string b => some (a, b)
    | _ => none
  | _ => none
def binA (P : Program) (o : Oper) (op : BinOp) (t : TypeId) (f : AF) (x y : Operand) : Option Value := match natPair (ev f x) (ev f y) with
  | some (k, a, b) => match natBin op k a b with
    | some v => some v
    | none => binSlow P o op t f (ev f x) (ev f y)
  | none => match strPair (ev f x) (ev f y) with
    | some (a, b) => stringA op a b
    | none => binSlow P o op t f (ev f x) (ev f y)
/-- conversion of a number that is not negative to a kind of numbers -/
def convNat (P : Program) (src dst : TypeId) (x : Value) : Option Value := match x with
  | .int _ i => match i with
    | .ofNat a => match P.underlying src, P.underlying dst with
      | some _, some (.int k) => intK k a
      | _, _ => none
    | _ => none
  | _ => none
def slowOp (P : Program) (f : AF) (o : Oper) : Option Value := match o.op.operands.all fun x => bare (ev f x) with
  | true => match pureRun P (execOp (ev f) o) with
    | some (.value r) => match bare r with
      | true => some r
      | false => none
    | _ => none
  | false => none

def zeroT (P : Program) (t : TypeId) : Option Value := match P.info? t with
  | some i => match i.zero with
    | some z => match bare z with
      | true => match Nat.beq z.cells.size i.size with
        | true => some z
        | false => none
      | false => none
    | none => none
  | none => none
/-- a type assertion -/
def assertA (P : Program) (x : Value) (asserted : TypeId) (ok : Bool) : Option Value := match x with
  | .iface t v => match P.underlying asserted with
    | some (.interface want) => match P.info? t with
      | some i => match Instr.missingMethod want i.methods with
        | none => some (match ok with | true => .tuple #[.iface t v, .bool true] | false => .iface t v)
        | some _ => none
      | none => none
    | some _ => match Nat.beq t asserted with
      | true => some (match ok with | true => .tuple #[v, .bool true] | false => v)
      | false => match ok with
        | true => match zeroT P asserted with
          | some z => some (.tuple #[z, .bool false])
          | none => none
        | false => none
    | none => none
  | _ => none
/-- a method of a dynamic type that is reached without a step and takes the value as it is -/
def methodF (P : Program) (t : TypeId) (name : String) : Option FuncId := match P.info? t with
  | some i => match i.methods.toList.find? (·.name == name) with
    | some m => match m.path.toList, m.func, P.underlying t with
      | [], some (f, true), some (.pointer _) => some f
      | [], some (_, false), some (.pointer _) => none
      | [], some (f, false), some _ => some f
      | _, _, _ => none
    | none => none
  | none => none

/-- an operation that does not look at the heap -/
def heapless (P : Program) (f : AF) (o : Oper) : Option Value := match o.op with
  | .move x | .assign x => some (ev f x)
  | .pick c a b => match ev f c with
    | .bool true => some (ev f a)
    | .bool false => some (ev f b)
    | _ => none
  | .nilCheck x => match ev f x with
    | .pointer (some a) => some (.pointer (some a))
    | .func (.func g) a c => some (.func (.func g) a c)
    | .map r => some (.map r)
    | _ => none
  | .extract x i => match ev f x with
    | .tuple vs => vs[i]?
    | _ => none
  | .field t x i => fieldA P t (ev f x) i
  | .build t parts => buildF P t (parts.toList.map fun p => (p.1, ev f p.2))
  | .makeInterface t x => match P.underlying t with
    | some (.interface _) | none => none
    | some _ => some (.iface t (ev f x))
  | .makeFunc fn first captured => some (.func fn (first.map (ev f)) (captured.map (ev f)))
  | .fieldAddr t x i => fieldAddrA P t (ev f x) i
  | .indexAddr t x i => indexAddrA P t (ev f x) (ev f i)
  | .binOp op t x y _ => binA P o op t f x y
  | .slice t x lo hi mx => match ev f x, P.underlying t with
    | .string s, some .string => match boundA (hi.map (ev f)) s.size s.size with
      | some h => match boundA (lo.map (ev f)) 0 h, mx with
        | some l, none => some (.string ⟨(takeN (h - l) (dropN l s.data.toList)).toArray⟩)
        | _, _ => none
      | none => none
    | _, _ => none
  | .index t x i => match ev f x, ev f i, P.underlying t with
    | .string s, .int _ j, some .string => match inRange j s.size with
      | some j => match nth s.data.toList j with
        | some b => some (.int .u8 b.toNat)
        | none => none
      | none => none
    | u, v, _ => indexA P t u v
  | .call ⟨.builtin .len, args, ts⟩ => match args.toList.map (ev f), ts.toList with
    | [.slice _ n _], [t] => match P.underlying t with
      | some (.slice _) => some (.int .i64 n)
      | _ => none
    | [.string s], [t] => match P.underlying t with
      | some .string => some (.int .i64 s.size)
      | _ => none
    | _, _ => none
  | .call ⟨.builtin .cap, args, ts⟩ => match args.toList.map (ev f), ts.toList with
    | [.slice _ _ c], [t] => match P.underlying t, Nat.beq c unk with
      | some (.slice _), false => some (.int .i64 c)
      | _, _ => none
    | _, _ => none
  | .convert src dst x => match convNat P src dst (ev f x) with
    | some v => some v
    | none => slowOp P f o
  | .typeAssert x _ asserted ok => match assertA P (ev f x) asserted ok with
    | some v => some v
    | none => slowOp P f o
  | .call ⟨.builtin .unsafeSliceData, args, _⟩ => match args.toList.map (ev f) with
    | [.slice (some ⟨b, o, none⟩) (_ + 1) _] => some (.pointer (some ⟨b, o, none⟩))
    | _ => slowOp P f o
  | .unOp .. | .call ⟨.builtin .min, _, _⟩ | .call ⟨.builtin .max, _, _⟩ | .call ⟨.builtin .unsafeString, _, _⟩ => slowOp P f o
  | _ => none

def ptrA : Value → Option (Nat × Nat)
  | .pointer (some ⟨b, o, none⟩) => some (b, o)
  | _ => none
/-- n cells that begin at o -/
def cellsA (cs : List Value) (o n : Nat) : Option (List Value) := match lenIs n (takeN n (dropN o cs)) with
  | true => some (takeN n (dropN o cs))
  | false => none
theorem nbeq_comm (a b : Nat) : Nat.beq a b = Nat.beq b a := by
  by_cases h : a = b
  · subst h; rfl
  · rw [nbeq_f h, nbeq_f (Ne.symm h)]
theorem cellsA_old (cs : List Value) (o n : Nat) : cellsA cs o n = match Nat.beq ((cs.drop o).take n).length n with
  | true => some ((cs.drop o).take n)
  | false => none := by
  unfold cellsA
  rw [lenIs_eq, takeN_eq, dropN_eq, nbeq_comm]
def loadA (P : Program) (s : HS) (t : TypeId) (x : Value) : Option Value := match ptrA x with
  | some (b, o) => match s.at b with
    | some (.row cs _ _) => match aggT P t, sizeT P t with
      | some true, some n => match cellsA cs o n with
        | some xs => some (.agg xs.toArray)
        | none => none
      | some false, _ => nth cs o
      | _, _ => none
    | _ => none
  | none => none
def splice (cs : List Value) (o : Nat) (vs : List Value) : List Value := cs.take o ++ (vs ++ cs.drop (o + vs.length))
theorem splice_eq (vs : List Value) (o : Nat) (cs : List Value) : spliceN vs o cs = splice cs o vs := spliceN_eq vs o cs
def storeRow (s : HS) (b o : Nat) (vs : List Value) : Option HS := match vs.all (·.oneCell') with
  | true => match s.at b with
    | some (.row cs e z) => match Nat.ble (o + vs.length) cs.length with
      | true => spliceK vs o cs fun cs => s.put b (.row cs e z)
      | false => none
    | _ => none
  | false => none
def storeA (P : Program) (s : HS) (t : TypeId) (x v : Value) : Option HS := match ptrA x, sizeT P t with
  | some (b, o), some n => match Nat.beq v.cells.size n with
    | true => storeRow s b o v.cells.toList
    | false => none
  | _, _ => none
def newVarA (s : HS) (t : TypeId) (v : Value) : Option (Value × HS) := match s.new (.row v.cells.toList t 0) with
  | some s' => some (.pointer (some ⟨s.next, 0, none⟩), s')
  | none => none
/-- a row of n zero elements, as the model writes it -/
def zeros (z : Array Value) (n : Nat) : Array Value := (Array.range n).map (z[· % z.size]!)
def newRowA (s : HS) (e z : Nat) (cs : List Value) (len cap : Nat) : Option (Value × HS) := match s.new (.row cs e z) with
  | some s' => some (.slice (some ⟨s.next, 0, none⟩) len cap, s')
  | none => none
def buildSliceA (P : Program) (s : HS) (t : TypeId) (len : Nat) (parts : Array (Nat × Value)) : Option (Value × HS) := match P.underlying t with
  | some (.slice e) => match sizeT P e, zeroT P e with
    | some (z + 1), some zv => match Nat.ble (len * (z + 1)) 10000 && zv.cells.toList.all bare0 with
      | true => match len with
        | 0 => match parts.toList with
          | [] => newRowA s e (z + 1) [] 0 0
          | _ :: _ => none
        | n + 1 => match Instr.fill (fun i => some (i * (z + 1), z + 1)) (zeros zv.cells ((n + 1) * (z + 1))) parts.toList with
          | some cs => newRowA s e (z + 1) cs.toList (n + 1) (n + 1)
          | none => none
      | false => none
    | _, _ => none
  | _ => none
/-- a slice of one element -/
def buildOne (P : Program) (s : HS) (t : TypeId) (v : Value) : Option (Value × HS) := match P.underlying t with
  | some (.slice e) => match sizeT P e, zeroT P e with
    | some (z + 1), some zv => match Nat.ble (1 * (z + 1)) 10000 && zv.cells.toList.all bare0 with
      | true => match lenIs (z + 1) v.cells.toList with
        | true => newRowA s e (z + 1) v.cells.toList 1 1
        | false => none
      | false => none
    | _, _ => none
  | _ => none
def buildSliceF (P : Program) (s : HS) (t : TypeId) (len : Nat) (ps : List (Nat × Value)) : Option (Value × HS) := match len with
  | 1 => match ps with
    | [(0, v)] => match buildOne P s t v with
      | some r => some r
      | none => buildSliceA P s t len ps.toArray
    | _ => buildSliceA P s t len ps.toArray
  | _ => buildSliceA P s t len ps.toArray
def makeSliceA (P : Program) (s : HS) (t : TypeId) (l c : Value) : Option (Value × HS) := match P.underlying t with
  | some (.slice e) => match l, c with
    | .int _ li, .int _ ci => match upTo li 100000, upTo ci 100000 with
      | some l, some c => match P.info? e, zeroT P e with
        | some i, some zv => match i.size with
          | z + 1 => match Nat.ble l c && (Nat.ble i.bytes 100000 && zv.cells.toList.all bare0) with
            | true => newRowA s e (z + 1) (zeros zv.cells (c * (z + 1))).toList l c
            | false => none
          | 0 => none
        | _, _ => none
      | _, _ => none
    | _, _ => none
  | _ => none
/-- the cells of a slice or a string that is appended or copied -/
def sourceA (s : HS) (z n : Nat) (x : Value) : Option (List Value) := match x with
  | .slice none _ _ => match n with
    | 0 => some []
    | _ => none
  | .slice (some ⟨b, o, none⟩) _ _ => match s.at b with
    | some (.row cs _ _) => cellsA cs o (n * z)
    | _ => none
  | .slice (some ⟨_, _, some _⟩) _ _ => match n with
    | 0 => some []
    | _ => none
  | .string t => match Nat.beq z 1 with
    | true => some ((t.data.toList.take n).map fun b => .int .u8 b.toNat)
    | false => none
  | _ => none
def lenA : Value → Option Nat
  | .slice _ n _ => some n
  | .string s => some s.size
  | _ => none
def appendTo (s : HS) (e z n : Nat) (new : List Value) (x : Value) : Option (Value × HS) := match x with
  | .slice none 0 0 => match n with
    | 0 => some (.slice none 0 0, s)
    | n + 1 => newRowA s e z new (n + 1) unk
  | .slice (some ⟨b, o, none⟩) l c => match s.at b with
    | some (.row cs t1 z1) => match Nat.beq z1 z && (Nat.ble l 100000 && Nat.beq t1 e) with
      | false => none
      | true => match Nat.beq c unk with
        | true => match n with
          | 0 => some (.slice (some ⟨b, o, none⟩) l unk, s)
          | n + 1 => match leLen (o + (l + (n + 1)) * z) cs with
            | true => match storeRow s b (o + l * z) new with
              | some s' => some (.slice (some ⟨b, o, none⟩) (l + (n + 1)) unk, s')
              | none => none
            | false => match lenIs (l * z) cs && Nat.beq o 0 with
              | true => match apK new cs fun cs => s.take b (.row cs e z) with
                | some s' => some (.slice (some ⟨s.next, 0, none⟩) (l + (n + 1)) unk, s')
                | none => none
              | false => none
        | false => match Nat.ble (l + n) c with
          | true => match storeRow s b (o + l * z) new with
            | some s' => some (.slice (some ⟨b, o, none⟩) (l + n) c, s')
            | none => none
          | false => match cellsA cs o (l * z) with
            | some old => newRowA s e z (old ++ new) (l + n) unk
            | none => none
    | _ => none
  | _ => none
def notInt : TypeDesc → Bool
  | .string => true
  | .slice _ => true
  | _ => false
def appendA (P : Program) (s : HS) (t u : TypeId) (x y : Value) : Option (Value × HS) := match P.underlying t, P.underlying u with
  | some (.slice e), some ud => match P.info? e, zeroT P e, lenA y with
    | some i, some zv, some n => match i.size with
      | 0 => none
      | z + 1 => match Nat.ble i.bytes 100000 && (Nat.ble n 100000 && (zv.cells.toList.all bare0 && notInt ud)) with
        | false => none
        | true => match sourceA s (z + 1) n y with
          | none => none
          | some new => match new.all (·.oneCell') with
            | false => none
            | true => appendTo s e (z + 1) n new x
    | _, _, _ => none
  | _, _ => none
def copyA (P : Program) (s : HS) (t : TypeId) (x y : Value) : Option (Value × HS) := match P.underlying t, x, lenA y with
  | some (.slice e), .slice base l _, some n => match sizeT P e with
    | some z => match sourceA s z (Nat.min n l) y with
      | some new => match base with
        | some ⟨b, o, none⟩ => match storeRow s b o new with
          | some s' => some (.int .i64 (Nat.min n l), s')
          | none => none
        | none => some (.int .i64 (Nat.min n l), s)
        | _ => none
      | none => none
    | none => none
  | _, _, _ => none
def toBytes : List Value → Option (List UInt8)
  | [] => some []
  | .int .u8 n :: r => match toBytes r with
    | some l => some (UInt8.ofNat n.toNat :: l)
    | none => none
  | _ => none
def convA (P : Program) (s : HS) (src dst : TypeId) (x : Value) : Option (Value × HS) := match P.underlying src, P.underlying dst, x with
  | some (.slice e), some .string, .slice a n _ => match P.underlying e with
    | some (.int .u8) => match a with
      | none => some (.string .empty, s)
      | some ⟨b, o, none⟩ => match s.at b with
        | some (.row cs _ _) => match cellsA cs o n with
          | some xs => match toBytes xs with
            | some l => some (.string ⟨l.toArray⟩, s)
            | none => none
          | none => none
        | _ => none
      | _ => none
    | _ => none
  | some .string, some (.slice e), .string t => match P.underlying e with
    | some (.int .u8) => match Nat.ble t.size lim with
      | true => newRowA s e 1 (t.data.toList.map fun b => .int .u8 b.toNat) t.size unk
      | false => none
    | _ => none
  | _, _, _ => none
/-- a pointer through unsafe.Pointer and back -/
def convPtrA (P : Program) (s : HS) (src dst : TypeId) (x : Value) : Option Value := match P.underlying src, P.underlying dst, x with
  | some (.pointer t), some .unsafePointer, .pointer (some ⟨b, o, none⟩) => match s.at b, P.info? t with
    | some (.row cs _ _), some j => match Nat.beq j.size 0, Nat.blt o cs.length with
      | false, true => some (.pointer (some ⟨b, o, none⟩))
      | _, _ => none
    | _, _ => none
  | some .unsafePointer, some (.pointer u), .pointer (some ⟨b, 0, none⟩) => match s.at b, P.info? u with
    | some (.row cs e _), some _ => match Nat.beq e u, Nat.blt 0 (P.cellsOf u), Nat.ble (P.cellsOf u) cs.length with
      | true, true, true => some (.pointer (some ⟨b, 0, none⟩))
      | _, _, _ => none
    | _, _ => none
  | _, _, _ => none
/-- bytes that are written as such -/
def bytesA : List Value → Option (List UInt8)
  | [] => some []
  | .int .u8 i :: r => match i with
    | .ofNat n => match Nat.blt n 256, bytesA r with
      | true, some l => some (UInt8.ofNat n :: l)
      | _, _ => none
    | _ => none
  | _ => none
/-- the text of a row's first bytes; the row is left alone afterwards -/
def unStrA (P : Program) (s : HS) (pt : TypeId) (x n : Value) : Option (Value × HS) := match P.underlying pt, x, n with
  | some (.pointer e), .pointer (some ⟨b, 0, none⟩), .int .i64 i => match s.at b with
    | some (.row cs t _) => match Nat.beq e t && Nat.beq (P.cellsOf e) 1, upTo i 1000000 with
      | true, some (m + 1) => match cellsA cs 0 (m + 1) with
        | some xs => match bytesA xs, s.drop b with
          | some l, some s' => some (.string ⟨l.toArray⟩, s')
          | _, _ => none
        | none => none
      | _, _ => none
    | _ => none
  | _, _, _ => none
def findA (P : Program) (kt : TypeId) (k : Value) : List MapEntry → Nat → Option (Option (Nat × Value))
  | [], _ => some none
  | e :: es, i => match bare e.key with
    | true => match pureRun P (Op.equal kt k e.key) with
      | some true => some (some (i, e.val))
      | some false => findA P kt k es (i + 1)
      | none => none
    | false => none
def lookupA (P : Program) (s : HS) (t : TypeId) (m k : Value) (ok : Bool) : Option Value := match P.underlying t, bare k with
  | some (.map kt et), true => match m, zeroT P et with
    | .map r, some z => match (match r with | none => some [] | some r => match s.at r with | some (.map es _) => some es | _ => none) with
      | some es => match pureRun P (Instr.checkKey es.isEmpty 10000 kt k), findA P kt k es 0 with
        | some _, some (some (_, v)) => some (match ok with | true => .tuple #[v, .bool true] | false => v)
        | some _, some none => some (match ok with | true => .tuple #[z, .bool false] | false => z)
        | _, _ => none
      | none => none
    | _, _ => none
  | _, _ => none
def mapUpdateA (P : Program) (s : HS) (t : TypeId) (m k v : Value) : Option HS := match P.underlying t, bare k, m with
  | some (.map kt _), true, .map (some r) => match s.at r with
    | some (.map es c) => match pureRun P (Instr.checkKey false 10000 kt k), findA P kt k es 0 with
      | some _, some (some (i, _)) => match es[i]? with
        | some e => match Instr.sameBits 10000 e.key k with
          | true => forceS (es.modify i fun e => { e with key := k, val := v }) fun es => s.put r (.map es c)
          | false => none
        | none => none
      | some _, some none => forceS (es ++ [{ key := k, val := v, born := c }]) fun es => forceN (c + 1) fun c => s.put r (.map es c)
      | _, _ => none
    | _ => none
  | _, _, _ => none

/-- what an operation does -/
inductive AR where
  | val (v : Value) (s : HS)
  | enter (f : FuncId) (args : List Value)

def someV (s : HS) : Option Value → Option AR
  | some v => some (.val v s)
  | none => none
def pairV : Option (Value × HS) → Option AR
  | some (v, s) => some (.val v s)
  | none => none
def unitV : Option HS → Option AR
  | some s => some (.val undef s)
  | none => none

/-- a function that the model answers for itself, of values without names -/
def externA (P : Program) (s : HS) (g : FuncId) (args : List Value) : Option AR := match args.all bare with
  | true => match pureRun P (callFunc g args.toArray) with
    | some (.value r) => match bare r with
      | true => some (.val r s)
      | false => none
    | _ => none
  | false => none
def callA (P : Program) (s : HS) (g : FuncId) (args : List Value) : Option AR := match P.funcs[g]? with
  | some fn => match fn.name == "runtime.NumGoroutine", fn.body with
    | false, some _ => some (.enter g args)
    | false, none => match fn.name == "internal/abi.NoEscape" && fn.origin == "", args with
      | true, [.pointer (some ⟨b, o, none⟩)] => some (.val (.pointer (some ⟨b, o, none⟩)) s)
      | _, _ => match fn.name == "internal/bytealg.MakeNoZero" && fn.origin == "", args, fn.resultTypes.toList with
        | true, [.int .i64 i], [t] => match P.underlying t, upTo i 100000 with
          | some (.slice e), some n => pairV (newRowA s e 1 [] n unk)
          | _, _ => none
        | _, _, _ => externA P s g args
    | _, _ => none
  | none => none
def lenMapA (P : Program) (s : HS) (t : TypeId) (m : Value) : Option Value := match P.underlying t, m with
  | some (.map _ _), .map none => some (.int .i64 0)
  | some (.map _ _), .map (some r) => match s.at r with
    | some (.map es _) => some (.int .i64 es.length)
    | _ => none
  | _, _ => none
def onlyEnter : Option AR → Option AR
  | some (.enter g args) => some (.enter g args)
  | _ => none

def runOp (P : Program) (G : Gl) (f : AF) (s : HS) (o : Oper) : Option AR := match allOk G o.op with
  | false => none
  | true => match heapless P f o with
    | some v => some (.val v s)
    | none => match o.op with
      | .load t x => someV s (loadA P s t (ev f x))
      | .store t x v => unitV (storeA P s t (ev f x) (ev f v))
      | .alloc t => match zeroT P t with
        | some z => pairV (newVarA s t z)
        | none => none
      | .slice t x lo hi mx => someV s (sliceA P s t (ev f x) (lo.map (ev f)) (hi.map (ev f)) (mx.map (ev f)))
      | .box t x => pairV (newVarA s t (ev f x))
      | .buildSlice t n parts => pairV (buildSliceF P s t n (parts.toList.map fun p => (p.1, ev f p.2)))
      | .makeSlice t l c => pairV (makeSliceA P s t (ev f l) (ev f c))
      | .convert src dst x => match convPtrA P s src dst (ev f x) with
        | some v => some (.val v s)
        | none => pairV (convA P s src dst (ev f x))
      | .makeMap _ none => match s.new (.map [] 0) with
        | some s' => some (.val (.map (some s.next)) s')
        | none => none
      | .lookup t m k ok => someV s (lookupA P s t (ev f m) (ev f k) ok)
      | .mapUpdate t m k v => unitV (mapUpdateA P s t (ev f m) (ev f k) (ev f v))
      | .call c => match c.callee, c.args.toList.map (ev f), c.argTypes.toList with
        | .builtin .append, [x, y], [t, u] => pairV (appendA P s t u x y)
        | .builtin .copy, [x, y], t :: _ => pairV (copyA P s t x y)
        | .builtin .len, [m], [t] => someV s (lenMapA P s t m)
        | .builtin .unsafeString, [x, n], [t, _] => pairV (unStrA P s t x n)
        | .value g, args, _ => match ev f g with
          | .func (.func g) first captured => callA P s g (first.toList ++ args ++ captured.toList)
          | _ => none
        | .invoke r name, args, _ => match ev f r with
          | .iface t v => match methodF P t name with
            | some g => onlyEnter (callA P s g (v :: args))
            | none => none
          | _ => none
        | _, _, _ => none
      | _ => none

abbrev Rec := Code → AF → HS → Option (AX × AF × HS)

def loadsTmps : List Value → Nat → Tr Value → Tr Value
  | [], _, t => t
  | v :: r, i, t => loadsTmps r (i + 1) (t.set deep i (some v))
def enterF (fn : Func) (args : List Value) : AF := ⟨loadsTmps args 0 .leaf, args.length + (fn.ntmps - args.length), []⟩
def loadsK {β : Type} : List Value → Nat → Tr Value → (Tr Value → β) → β
  | [], _, t, k => k t
  | v :: r, i, t, k => forceV v fun v => setK deep t i (some v) fun t => loadsK r (i + 1) t k
theorem loadsK_eq {β : Type} : ∀ (l : List Value) (i : Nat) (t : Tr Value) (k : Tr Value → β), loadsK l i t k = k (loadsTmps l i t)
  | [], _, _, _ => rfl
  | v :: r, i, t, k => by
    simp only [loadsK, loadsTmps, forceV_eq, setK_eq]
    exact loadsK_eq r (i + 1) _ k
def enterK {β : Type} (fn : Func) (args : List Value) (k : AF → β) : β := loadsK args 0 .leaf fun t => forceN (args.length + (fn.ntmps - args.length)) fun n => k ⟨t, n, []⟩
theorem enterK_eq {β : Type} (fn : Func) (args : List Value) (k : AF → β) : enterK fn args k = k (enterF fn args) := by
  unfold enterK enterF
  rw [loadsK_eq, forceN_eq]
def resultA (P : Program) (f : AF) (s : HS) : ResultVar → Option Value
  | .tmp t => some (f.get t)
  | .cell a t => loadA P s t (f.get a)
def resultsA (P : Program) (f : AF) (s : HS) (l : List ResultVar) : Option Value := match l.mapM (resultA P f s) with
  | some [v] => some v
  | some vs => some (.tuple vs.toArray)
  | none => none
/-- a deferred function that is called where nothing panics: it does not look at the heap -/
def isRecover : Op → Bool
  | .call ⟨.builtin .recover, _, _⟩ => true
  | _ => false
def opD (P : Program) (f : AF) (o : Oper) : Option Value := match isRecover o.op with
  | true => some .nilIface
  | false => heapless P f o
def wantedA (ops : Array Oper) (f : AF) (o : Oper) : Bool := match o.guard with
  | none => true
  | some (j, want) => match (ops[j]?).bind (·.dst) with
    | some t => match f.get t with
      | .bool b => b == want
      | _ => false
    | none => false
def runOpsD (P : Program) (G : Gl) (ops : Array Oper) : List Oper → AF → Option AF
  | [], f => some f
  | o :: r, f => match wantedA ops f o with
    | false => match f.putO o.dst undef with
      | some f' => runOpsD P G ops r f'
      | none => none
    | true => match o.op.operands.all (okOp G) with
      | false => none
      | true => match opD P f o with
        | none => none
        | some v => match f.putO o.dst v with
          | some f' => runOpsD P G ops r f'
          | none => none
def runD (P : Program) (G : Gl) : Nat → Code → AF → Option (AX × AF)
  | 0, _, _ => none
  | n + 1, c, f => match c with
    | .skip => some (.normal, f)
    | .label _ => some (.normal, f)
    | .ret => some (.ret, f)
    | .region _ ops false => match runOpsD P G ops ops.toList f with
      | some f' => some (.normal, f')
      | none => none
    | .seq a b => match runD P G n a f with
      | some (.normal, f') => runD P G n b f'
      | some (.ret, f') => some (.ret, f')
      | _ => none
    | .cond c a b => match okOp G c, ev f c with
      | true, .bool true => runD P G n a f
      | true, .bool false => runD P G n b f
      | _, _ => none
    | _ => none
/-- the deferred calls of a function that returns -/
def leaveA (P : Program) (G : Gl) : List (FuncId × List Value) → Bool
  | [] => true
  | (g, args) :: r => match P.funcs[g]? with
    | some fn => match fn.name == "runtime.NumGoroutine", fn.body, fn.results.toList with
      | false, some c, [] => match Nat.ble args.length lim, runD P G 100 c (enterF fn args) with
        | true, some (_, f) => match f.defers with
          | [] => leaveA P G r
          | _ => false
        | _, _ => false
      | _, _, _ => false
    | none => false
def intEq : Int → Int → Bool
  | .ofNat a, .ofNat b => Nat.beq a b
  | .negSucc a, .negSucc b => Nat.beq a b
  | _, _ => false
def addrEq : Option Addr → Option Addr → Bool
  | none, none => true
  | some ⟨b, o, none⟩, some ⟨c, p, none⟩ => Nat.beq b c && Nat.beq o p
  | _, _ => false
def nameEq : Option Nat → Option Nat → Bool
  | none, none => true
  | some b, some c => Nat.beq b c
  | _, _ => false
def boolEq : Bool → Bool → Bool
  | true, true => true
  | false, false => true
  | _, _ => false
/-- are two values surely the same? -/
def veq0 (x y : Value) : Bool := match x with
  | .int k i => match y with
    | .int l j => Nat.beq k.ctorIdx l.ctorIdx && intEq i j
    | _ => false
  | .bool b => match y with
    | .bool c => boolEq b c
    | _ => false
  | .string a => match y with
    | .string b => bytesBeq a.data.toList b.data.toList
    | _ => false
  | .pointer a => match y with
    | .pointer b => addrEq a b
    | _ => false
  | .slice a l c => match y with
    | .slice b m d => addrEq a b && (Nat.beq l m && Nat.beq c d)
    | _ => false
  | .map r => match y with
    | .map q => nameEq r q
    | _ => false
  | .nilIface => match y with
    | .nilIface => true
    | _ => false
  | .nilFunc => match y with
    | .nilFunc => true
    | _ => false
  | _ => false
def all2 {α : Type} (p : α → α → Bool) : List α → List α → Bool
  | [], [] => true
  | x :: r, y :: q => p x y && all2 p r q
  | _, _ => false
def nest (p : Value → Value → Bool) (x y : Value) : Bool := match x with
  | .agg a => match y with
    | .agg b => all2 p a.toList b.toList
    | _ => false
  | .tuple a => match y with
    | .tuple b => all2 p a.toList b.toList
    | _ => false
  | .iface t v => match y with
    | .iface u w => Nat.beq t u && p v w
    | _ => false
  | x => veq0 x y
def veq (x y : Value) : Bool := nest (nest veq0) x y
def entEq (x y : MapEntry) : Bool := veq x.key y.key && (veq x.val y.val && Nat.beq x.born y.born)
def oeq (x y : AObj) : Bool := match x with
  | .row cs e z => match y with
    | .row ds f u => all2 veq cs ds && (Nat.beq e f && Nat.beq z u)
    | _ => false
  | .map es c => match y with
    | .map fs d => all2 entEq es fs && Nat.beq c d
    | _ => false
def setAll : List (Nat × AObj) → Tr AObj → Tr AObj
  | [], t => t
  | (b, o) :: r, t => setK deep (setAll r t) b (some o) fun t => t
def allIn (s : HS) : List (Nat × AObj) → Bool
  | [] => true
  | (b, o) :: r => match s.at b with
    | some o' => match oeq o' o with
      | true => allIn s r
      | false => false
    | none => false
def applyK : List Known → Nat → List Value → HS → Option (Value × HS)
  | [], _, _, _ => none
  | x :: r, g, args, s => match Nat.beq g x.fn && (Nat.ble s.next x.n0 && (all2 veq args x.args && (allIn s x.inH && (Nat.ble x.n1 lim && x.outH.all fun p => Nat.ble x.n0 p.1 && Nat.blt p.1 x.n1)))) with
    | true => some (x.v, ⟨setAll x.outH s.heap, x.n1, s.log⟩)
    | false => applyK r g args s
def callN (P : Program) (G : Gl) (rec : Rec) (g : FuncId) (args : List Value) (s : HS) : Option (Value × HS) := match P.funcs[g]? with
  | some fn => match fn.body with
    | some c => match Nat.ble args.length lim, enterK fn args (fun f => rec c f s) with
      | true, some (.normal, f, s') => match leaveA P G f.defers, resultsA P f s' fn.results.toList with
        | true, some v => some (v, s')
        | _, _ => none
      | true, some (.ret, f, s') => match leaveA P G f.defers, resultsA P f s' fn.results.toList with
        | true, some v => some (v, s')
        | _, _ => none
      | _, _ => none
    | none => none
  | none => none

def callF (P : Program) (G : Gl) (rec : Rec) (g : FuncId) (args : List Value) (s : HS) : Option (Value × HS) := match applyK G.known g args s with
  | some r => some r
  | none => callN P G rec g args s

def stepOp (P : Program) (G : Gl) (rec : Rec) (f : AF) (s : HS) (o : Oper) : Option (Value × HS) := match runOp P G f s o with
  | some (.val v s') => some (v, s')
  | some (.enter g args) => callF P G rec g args s
  | none => none
def deferA (f : AF) (o : Oper) : Option AF := match o.op with
  | .defer ⟨.value g, args, _⟩ => match ev f g with
    | .func (.func g) first captured => some ⟨f.tmps, f.size, (g, first.toList ++ args.toList.map (ev f) ++ captured.toList) :: f.defers⟩
    | _ => none
  | _ => none
def runOps (P : Program) (G : Gl) (rec : Rec) (ops : Array Oper) : List Oper → AF → HS → Option (AF × HS)
  | [], f, s => some (f, s)
  | o :: r, f, s => match wantedA ops f o with
    | false => match f.putO o.dst undef with
      | some f' => runOps P G rec ops r f' s
      | none => none
    | true => match deferA f o with
      | some f' => match o.op.operands.all (okOp G), f'.putO o.dst undef with
        | true, some f'' => runOps P G rec ops r f'' s
        | _, _ => none
      | none => match stepOp P G rec f s o with
        | some (v, s') => match f.putO o.dst v with
          | some f' => runOps P G rec ops r f' s'
          | none => none
        | none => none
/-- an operation of a region that draws its order and that has looked at the heap: its number, and the names that it made or touched -/
structure DRec where
  k : Nat
  nms : List Nat
  rds : Option (List Nat)
structure DS where
  f : AF
  s : HS
  done : List DRec

def ancAt (anc : List Nat) (k : Nat) : Nat := anc.getD k 0
def isAnc (anc : List Nat) (j k : Nat) : Bool := (ancAt anc k).testBit j
def ancOk1 (anc : List Nat) (k : Nat) (o : Oper) : Bool :=
  o.after.toList.all (fun e => !Region.binds .any e || Nat.blt e.on k) &&
  (List.range k).all fun j => !isAnc anc j k || o.after.toList.any fun e => Region.binds .any e && (Nat.beq e.on j || (isAnc anc j e.on && Nat.blt j e.on))
def apartOk1 (ops : Array Oper) (anc : List Nat) (k : Nat) (o : Oper) : Bool :=
  (List.range k).all fun j => match ops[j]? with
    | some x => (match x.dst with | some d => o.dst != some d | none => true) && (isAnc anc j k || Oper.apart ops x o)
    | none => false
def statOk (ops : Array Oper) (anc : List Nat) : List Oper → Nat → Bool
  | [], _ => true
  | o :: r, k => ancOk1 anc k o && (apartOk1 ops anc k o && statOk ops anc r (k + 1))

def eraseAll : List Nat → Tr AObj → Tr AObj
  | [], t => t
  | b :: r, t => setK deep t b none fun t => eraseAll r t
def overlay (src : Tr AObj) : List Nat → Tr AObj → Option (Tr AObj)
  | [], t => some t
  | b :: r, t => match Nat.ble b lim with
    | true => match src.get b with
      | some o => setK deep t b (some o) fun t => overlay src r t
      | none => setK deep t b none fun t => overlay src r t
    | false => none
def touched (lo hi : Nat) (l : List Nat) : List Nat := l.filter fun b => !(Nat.ble lo b && Nat.blt b hi)
/-- the blocks that an operation looks at, where they are known -/
def readsOf (f : AF) (o : Op) : Option (List Nat) := match o with
  | .load _ x => match ptrA (ev f x) with
    | some (b, _) => some [b]
    | none => none
  | .store _ x _ => match ptrA (ev f x) with
    | some (b, _) => some [b]
    | none => none
  | .slice _ x _ _ _ => match ev f x with
    | .slice (some ⟨b, _, none⟩) _ _ => some [b]
    | .pointer (some ⟨b, _, none⟩) => some [b]
    | _ => none
  | _ => none
def pickAll (rem : List Nat) (t : Tr AObj) : List Nat → Tr AObj
  | [] => .leaf
  | b :: r => match Nat.ble b lim && !rem.contains b, t.get b with
    | true, some o => setK deep (pickAll rem t r) b (some o) fun t => t
    | _, _ => pickAll rem t r
def heapFor (t : Tr AObj) (rem : List Nat) : Option (List Nat) → Tr AObj
  | none => eraseAll rem t
  | some l => pickAll rem t l
def apartR (tch : List Nat) : Option (List Nat) → Bool
  | some l => tch.all fun b => !l.contains b
  | none => false
def free (inc : List DRec) (tch : List Nat) : Bool := match tch with
  | [] => true
  | tch => inc.all fun x => apartR tch x.rds
def direct (rem : List Nat) (rds : Option (List Nat)) : Bool := match rem with
  | [] => match rds with
    | none => true
    | some _ => false
  | _ => false
def joinA (s t : HS) (inc : List DRec) (rem : List Nat) (rds : Option (List Nat)) (tch : List Nat) : Option (HS × List Nat) := match Nat.ble t.next lim && tch.all (fun b => Nat.blt b s.next && !rem.contains b), free inc tch, direct rem rds with
  | true, true, true => some (⟨t.heap, t.next, t.log ++ s.log⟩, List.range' s.next (t.next - s.next) ++ tch)
  | true, true, false => match overlay t.heap (List.range' s.next (t.next - s.next) ++ tch) s.heap with
    | some h => some (⟨h, t.next, t.log ++ s.log⟩, List.range' s.next (t.next - s.next) ++ tch)
    | none => none
  | _, _, _ => none
def heapStep (P : Program) (G : Gl) (rec : Rec) (f : AF) (s : HS) (o : Oper) (inc : List DRec) (rem : List Nat) (rds : Option (List Nat)) : Option (Value × HS × List Nat) := match stepOp P G rec f ⟨heapFor s.heap rem rds, s.next, []⟩ o with
  | some (v, t) => match joinA s t inc rem rds (touched s.next t.next t.log) with
    | some (s', nms) => some (v, s', nms)
    | none => none
  | none => none
def drawn1 (P : Program) (G : Gl) (rec : Rec) (ops : Array Oper) (anc : List Nat) (k : Nat) (o : Oper) (d : DS) : Option DS := match wantedA ops d.f o with
  | false => match d.f.putO o.dst undef with
    | some f' => some ⟨f', d.s, d.done⟩
    | none => none
  | true => match allOk G o.op with
    | false => none
    | true => match heapless P d.f o with
      | some v => match d.f.putO o.dst v with
        | some f' => some ⟨f', d.s, d.done⟩
        | none => none
      | none => match heapStep P G rec d.f d.s o (d.done.filter fun x => !isAnc anc x.k k) ((d.done.filter fun x => !isAnc anc x.k k).flatMap (·.nms)) (readsOf d.f o.op) with
        | some (v, s', nms) => match d.f.putO o.dst v with
          | some f' => some ⟨f', s', ⟨k, nms, readsOf d.f o.op⟩ :: d.done⟩
          | none => none
        | none => none
def drawnGo (P : Program) (G : Gl) (rec : Rec) (ops : Array Oper) (anc : List Nat) : List Oper → Nat → DS → Option DS
  | [], _, d => some d
  | o :: r, k, d => match drawn1 P G rec ops anc k o d with
    | some d' => drawnGo P G rec ops anc r (k + 1) d'
    | none => none
def runDrawn (P : Program) (G : Gl) (rec : Rec) (ops : Array Oper) (anc : List Nat) (f : AF) (s : HS) : Option (AF × HS) := match statOk ops anc ops.toList 0 with
  | false => none
  | true => match drawnGo P G rec ops anc ops.toList 0 ⟨f, s, []⟩ with
    | some d => some (d.f, d.s)
    | none => none
/-- rounds of a loop -/
def iter (rec : Rec) (c : Code) : Nat → AF → HS → Option (AX × AF × HS)
  | 0, _, _ => none
  | n + 1, f, s => match rec c f s with
    | some (.normal, f', s') => iter rec c n f' s'
    | some (.exit i, f', s') => some (.exit i, f', s')
    | some (.ret, f', s') => some (.ret, f', s')
    | none => none
def step (P : Program) (G : Gl) (n : Nat) (rec : Rec) : Rec := fun c f s => match c with
  | .skip => some (.normal, f, s)
  | .label _ => some (.normal, f, s)
  | .region _ ops false => match runOps P G rec ops ops.toList f s with
    | some (f', s') => some (.normal, f', s')
    | none => none
  | .region _ ops true => match runDrawn P G rec ops (Region.before ops).toList f s with
    | some (f', s') => some (.normal, f', s')
    | none => none
  | .seq a b => match rec a f s with
    | some (.normal, f', s') => rec b f' s'
    | some (.exit i, f', s') => some (.exit i, f', s')
    | some (.ret, f', s') => some (.ret, f', s')
    | none => none
  | .cond c a b => match okOp G c, ev f c with
    | true, .bool true => rec a f s
    | true, .bool false => rec b f s
    | _, _ => none
  | .block id c => match rec c f s with
    | some (.exit i, f', s') => match Nat.beq i id with
      | true => some (.normal, f', s')
      | false => some (.exit i, f', s')
    | some (.normal, f', s') => some (.normal, f', s')
    | some (.ret, f', s') => some (.ret, f', s')
    | none => none
  | .loop c => iter rec c n f s
  | .exit id => some (.exit id, f, s)
  | .ret => some (.ret, f, s)
  | .scope c => rec c f s
  | _ => none
def run (P : Program) (G : Gl) (n : Nat) : Rec := @Nat.rec (fun _ => Rec) (fun _ _ _ => none) (fun n ih => step P G n ih) n
end Go.Proofs.YtkekpiillbpciaaGreatDoor.Cx
