/- A machine that runs a program's code on written inputs by computation alone, part 1: the kept values, how they stand for the values of a world, and how a run changes a world. No condition. -/
import Derived.Test.YtcnclcfglfgjlaaGreatDoorBase
import Derived.Below
namespace Go.Proofs.YtcnclcfglfgjlaaGreatDoor.Cx
open Go

theorem nbeq_f {m n : Nat} (h : m ≠ n) : Nat.beq m n = false := by
  cases hb : Nat.beq m n
  · rfl
  · exact absurd (Nat.eq_of_beq_eq_true hb) h
theorem nbeq_t {m n : Nat} (h : m = n) : Nat.beq m n = true := by subst h; exact Nat.beq_refl m
def deep : Nat := 40
/-- a tree of values under numbers -/
inductive Tr (α : Type) where
  | leaf
  | node (v : Option α) (l r : Tr α)

namespace Tr
variable {α : Type}
def top (t : Tr α) : Option α := @Tr.casesOn α (fun _ => Option α) t none (fun v _ _ => v)
def left (t : Tr α) : Tr α := @Tr.casesOn α (fun _ => Tr α) t .leaf (fun _ l _ => l)
def right (t : Tr α) : Tr α := @Tr.casesOn α (fun _ => Tr α) t .leaf (fun _ _ r => r)
def getF (f : Nat) : Tr α → Nat → Option α := @Nat.rec (fun _ => Tr α → Nat → Option α) (fun _ _ => none)
  (fun _ ih t n => @Tr.casesOn α (fun _ => Option α) t none fun v l r => @Bool.casesOn (fun _ => Option α) (Nat.beq n 0) (@Bool.casesOn (fun _ => Option α) (Nat.beq (n % 2) 1) (ih r (n / 2 - 1)) (ih l (n / 2))) v) f
def get (t : Tr α) (n : Nat) : Option α := getF deep t n
def set (f : Nat) : Tr α → Nat → Option α → Tr α := @Nat.rec (fun _ => Tr α → Nat → Option α → Tr α) (fun t _ _ => t)
  (fun _ ih t n v => @Bool.casesOn (fun _ => Tr α) (Nat.beq n 0) (@Bool.casesOn (fun _ => Tr α) (Nat.beq (n % 2) 1) (.node t.top t.left (ih t.right (n / 2 - 1) v)) (.node t.top (ih t.left (n / 2) v) t.right)) (.node v t.left t.right)) f

theorem getF_leaf (f n : Nat) : getF f (Tr.leaf : Tr α) n = none := by cases f <;> rfl
theorem get_leaf (n : Nat) : (Tr.leaf : Tr α).get n = none := rfl
theorem getF_succ (f : Nat) (t : Tr α) (n : Nat) : getF (f + 1) t n = if n = 0 then t.top else if n % 2 = 1 then getF f t.left (n / 2) else getF f t.right (n / 2 - 1) := by
  cases t with
  | leaf => 
    have h1 : getF f (Tr.leaf : Tr α).left (n / 2) = none := getF_leaf _ _
    have h2 : getF f (Tr.leaf : Tr α).right (n / 2 - 1) = none := getF_leaf _ _
    rw [h1, h2]
    have h3 : (Tr.leaf : Tr α).top = none := rfl
    rw [h3]
    simp only [ite_self]
    rfl
  | node v l r =>
    show (@Bool.casesOn (fun _ => Option α) (Nat.beq n 0) (@Bool.casesOn (fun _ => Option α) (Nat.beq (n % 2) 1) (getF f r (n / 2 - 1)) (getF f l (n / 2))) v) = if n = 0 then v else if n % 2 = 1 then getF f l (n / 2) else getF f r (n / 2 - 1)
    by_cases h : n = 0
    · rw [if_pos h, nbeq_t h]
    · rw [if_neg h, nbeq_f h]
      by_cases h1 : n % 2 = 1
      · rw [if_pos h1, nbeq_t h1]
      · rw [if_neg h1, nbeq_f h1]
theorem set_succ (f : Nat) (t : Tr α) (n : Nat) (v : Option α) : t.set (f + 1) n v = if n = 0 then .node v t.left t.right else if n % 2 = 1 then .node t.top (t.left.set f (n / 2) v) t.right else .node t.top t.left (t.right.set f (n / 2 - 1) v) := by
  show (@Bool.casesOn (fun _ => Tr α) (Nat.beq n 0) (@Bool.casesOn (fun _ => Tr α) (Nat.beq (n % 2) 1) (.node t.top t.left (t.right.set f (n / 2 - 1) v)) (.node t.top (t.left.set f (n / 2) v) t.right)) (.node v t.left t.right)) = _
  by_cases h : n = 0
  · rw [if_pos h, nbeq_t h]
  · rw [if_neg h, nbeq_f h]
    by_cases h1 : n % 2 = 1
    · rw [if_pos h1, nbeq_t h1]
    · rw [if_neg h1, nbeq_f h1]
theorem getF_set (f : Nat) : ∀ (t : Tr α) (n : Nat) (v : Option α), n + 1 < 2 ^ f → getF f (t.set f n v) n = v := by
  induction f with
  | zero => intro t n v h; simp at h
  | succ f ih =>
    intro t n v h
    have hp : 2 ^ (f + 1) = 2 * 2 ^ f := by rw [Nat.pow_succ]; omega
    rw [getF_succ, set_succ]
    by_cases h0 : n = 0
    · simp only [h0, if_true]; rfl
    · by_cases h1 : n % 2 = 1
      · simp only [h0, h1, if_false, if_true]
        exact ih _ _ _ (by omega)
      · simp only [h0, h1, if_false]
        exact ih _ _ _ (by omega)
theorem getF_set_ne (f : Nat) : ∀ (t : Tr α) (n m : Nat) (v : Option α), m ≠ n → getF f (t.set f n v) m = getF f t m := by
  induction f with
  | zero => intro t n m v h; rfl
  | succ f ih =>
    intro t n m v h
    rw [getF_succ, getF_succ, set_succ]
    by_cases h0 : n = 0
    · subst h0
      simp only [h, if_false, if_true]
      rfl
    · by_cases h1 : n % 2 = 1
      · simp only [h0, h1, if_false, if_true]
        by_cases hm : m = 0
        · simp only [hm, if_true]; rfl
        · by_cases hm1 : m % 2 = 1
          · simp only [hm, hm1, if_false, if_true]; exact ih _ _ _ _ (by omega)
          · simp only [hm, hm1, if_false]; rfl
      · simp only [h0, h1, if_false]
        by_cases hm : m = 0
        · simp only [hm, if_true]; rfl
        · by_cases hm1 : m % 2 = 1
          · simp only [hm, hm1, if_false, if_true]; rfl
          · simp only [hm, hm1, if_false]; exact ih _ _ _ _ (by omega)
theorem get_set (t : Tr α) (n : Nat) (v : Option α) (h : n + 1 < 2 ^ deep) : (t.set deep n v).get n = v := getF_set deep t n v h
theorem get_set_ne (t : Tr α) (n m : Nat) (v : Option α) (h : m ≠ n) : (t.set deep n v).get m = t.get m := getF_set_ne deep t n m v h
end Tr

section
variable {α : Type}
def nth (l : List α) (n : Nat) : Option α := @Nat.rec (fun _ => List α → Option α) (fun l => @List.casesOn α (fun _ => Option α) l none (fun a _ => some a)) (fun _ ih l => @List.casesOn α (fun _ => Option α) l none (fun _ r => ih r)) n l
def dropN (n : Nat) (l : List α) : List α := @Nat.rec (fun _ => List α → List α) (fun l => l) (fun _ ih l => @List.casesOn α (fun _ => List α) l [] (fun _ r => ih r)) n l
def takeN (n : Nat) (l : List α) : List α := @Nat.rec (fun _ => List α → List α) (fun _ => []) (fun _ ih l => @List.casesOn α (fun _ => List α) l [] (fun a r => a :: ih r)) n l
def lenIs (n : Nat) (l : List α) : Bool := @Nat.rec (fun _ => List α → Bool) (fun l => @List.casesOn α (fun _ => Bool) l true (fun _ _ => false)) (fun _ ih l => @List.casesOn α (fun _ => Bool) l false (fun _ r => ih r)) n l
def apN (new l : List α) : List α := @Nat.rec (fun _ => List α → List α) (fun l => l ++ new) (fun _ ih l => @List.casesOn α (fun _ => List α) l new (fun a r => a :: ih r)) 1000000000 l
def spliceN (vs : List α) (o : Nat) (l : List α) : List α := @Nat.rec (fun _ => List α → List α) (fun l => vs ++ dropN vs.length l) (fun _ ih l => @List.casesOn α (fun _ => List α) l (vs ++ []) (fun a r => a :: ih r)) o l
theorem nth_eq : ∀ (n : Nat) (l : List α), nth l n = l[n]?
  | 0, [] => rfl
  | 0, _ :: _ => rfl
  | _ + 1, [] => rfl
  | n + 1, _ :: r => nth_eq n r
theorem dropN_eq : ∀ (n : Nat) (l : List α), dropN n l = l.drop n
  | 0, [] => rfl
  | 0, _ :: _ => rfl
  | _ + 1, [] => rfl
  | n + 1, _ :: r => dropN_eq n r
theorem takeN_eq : ∀ (n : Nat) (l : List α), takeN n l = l.take n
  | 0, [] => rfl
  | 0, _ :: _ => rfl
  | _ + 1, [] => rfl
  | n + 1, a :: r => congrArg (a :: ·) (takeN_eq n r)
theorem lenIs_eq : ∀ (n : Nat) (l : List α), lenIs n l = Nat.beq n l.length
  | 0, [] => rfl
  | 0, _ :: _ => rfl
  | _ + 1, [] => rfl
  | n + 1, _ :: r => lenIs_eq n r
theorem apN_aux (new : List α) : ∀ (f : Nat) (l : List α), @Nat.rec (fun _ => List α → List α) (fun l => l ++ new) (fun _ ih l => @List.casesOn α (fun _ => List α) l new (fun a r => a :: ih r)) f l = l ++ new
  | 0, _ => rfl
  | _ + 1, [] => rfl
  | f + 1, a :: r => congrArg (a :: ·) (apN_aux new f r)
theorem apN_eq (new l : List α) : apN new l = l ++ new := apN_aux new 1000000000 l
theorem spliceN_eq (vs : List α) : ∀ (o : Nat) (l : List α), spliceN vs o l = l.take o ++ (vs ++ l.drop (o + vs.length))
  | 0, l => by
    show vs ++ dropN vs.length l = _
    rw [dropN_eq]
    simp
  | o + 1, [] => by
    show vs ++ [] = _
    simp
  | o + 1, a :: r => by
    show a :: spliceN vs o r = _
    rw [spliceN_eq vs o r]
    have : o + 1 + vs.length = (o + vs.length) + 1 := by omega
    rw [this]
    simp
end

section
variable {α β : Type}
def forceN (n : Nat) (k : Nat → β) : β := @Nat.casesOn (fun _ => β) n (k 0) (fun m => k (Nat.succ m))
theorem forceN_eq (n : Nat) (k : Nat → β) : forceN n k = k n := by cases n <;> rfl
def setK (f : Nat) : Tr α → Nat → Option α → (Tr α → β) → β := @Nat.rec (fun _ => Tr α → Nat → Option α → (Tr α → β) → β) (fun t _ _ k => k t)
  (fun _ ih t n v k => @Bool.casesOn (fun _ => β) (Nat.beq n 0)
    (@Bool.casesOn (fun _ => β) (Nat.beq (n % 2) 1)
      (@Tr.casesOn α (fun _ => β) t (forceN (n / 2 - 1) fun m => ih .leaf m v fun r => k (.node none .leaf r)) (fun u l r => forceN (n / 2 - 1) fun m => ih r m v fun r => k (.node u l r)))
      (@Tr.casesOn α (fun _ => β) t (forceN (n / 2) fun m => ih .leaf m v fun l => k (.node none l .leaf)) (fun u l r => forceN (n / 2) fun m => ih l m v fun l => k (.node u l r))))
    (@Tr.casesOn α (fun _ => β) t (k (.node v .leaf .leaf)) (fun _ l r => k (.node v l r)))) f
theorem setK_succ (f : Nat) (t : Tr α) (n : Nat) (v : Option α) (k : Tr α → β) : setK (f + 1) t n v k = if n = 0 then k (.node v t.left t.right) else if n % 2 = 1 then setK f t.left (n / 2) v (fun l => k (.node t.top l t.right)) else setK f t.right (n / 2 - 1) v (fun r => k (.node t.top t.left r)) := by
  show (@Bool.casesOn (fun _ => β) (Nat.beq n 0)
    (@Bool.casesOn (fun _ => β) (Nat.beq (n % 2) 1)
      (@Tr.casesOn α (fun _ => β) t (forceN (n / 2 - 1) fun m => setK f .leaf m v fun r => k (.node none .leaf r)) (fun u l r => forceN (n / 2 - 1) fun m => setK f r m v fun r => k (.node u l r)))
      (@Tr.casesOn α (fun _ => β) t (forceN (n / 2) fun m => setK f .leaf m v fun l => k (.node none l .leaf)) (fun u l r => forceN (n / 2) fun m => setK f l m v fun l => k (.node u l r))))
    (@Tr.casesOn α (fun _ => β) t (k (.node v .leaf .leaf)) (fun _ l r => k (.node v l r)))) = _
  by_cases h : n = 0
  · rw [if_pos h, nbeq_t h]
    cases t <;> rfl
  · rw [if_neg h, nbeq_f h]
    by_cases h1 : n % 2 = 1
    · rw [if_pos h1, nbeq_t h1]
      cases t <;> exact forceN_eq _ _
    · rw [if_neg h1, nbeq_f h1]
      cases t <;> exact forceN_eq _ _
theorem setK_eq (f : Nat) : ∀ (t : Tr α) (n : Nat) (v : Option α) (k : Tr α → β), setK f t n v k = k (t.set f n v) := by
  induction f with
  | zero => intro t n v k; rfl
  | succ f ih =>
    intro t n v k
    rw [setK_succ, Tr.set_succ, ih, ih]
    by_cases h : n = 0
    · rw [if_pos h, if_pos h]
    · rw [if_neg h, if_neg h]
      by_cases h1 : n % 2 = 1
      · rw [if_pos h1, if_pos h1]
      · rw [if_neg h1, if_neg h1]
def forceSF (f : Nat) : List α → (List α → β) → β := @Nat.rec (fun _ => List α → (List α → β) → β) (fun l k => k l) (fun _ ih l k => @List.casesOn α (fun _ => β) l (k []) (fun a r => ih r fun r => k (a :: r))) f
theorem forceSF_eq : ∀ (f : Nat) (l : List α) (k : List α → β), forceSF f l k = k l
  | 0, _, _ => rfl
  | _ + 1, [], _ => rfl
  | f + 1, a :: r, k => forceSF_eq f r fun r => k (a :: r)
/-- a list whose spine has been read -/
def forceS (l : List α) (k : List α → β) : β := forceSF 1000000000 l k
theorem forceS_eq (l : List α) (k : List α → β) : forceS l k = k l := forceSF_eq 1000000000 l k
def apKF (new : List α) (f : Nat) : List α → (List α → β) → β := @Nat.rec (fun _ => List α → (List α → β) → β) (fun l k => k (l ++ new)) (fun _ ih l k => @List.casesOn α (fun _ => β) l (forceS new k) (fun a r => ih r fun r => k (a :: r))) f
theorem apKF_eq (new : List α) : ∀ (f : Nat) (l : List α) (k : List α → β), apKF new f l k = k (l ++ new)
  | 0, _, _ => rfl
  | _ + 1, [], k => forceS_eq new k
  | f + 1, a :: r, k => apKF_eq new f r fun r => k (a :: r)
def apK (new l : List α) (k : List α → β) : β := apKF new 1000000000 l k
theorem apK_eq (new l : List α) (k : List α → β) : apK new l k = k (l ++ new) := apKF_eq new 1000000000 l k
def spliceE (vs l : List α) (k : List α → β) : β := match vs with
  | [v] => @List.casesOn α (fun _ => β) l (k [v]) (fun _ r => k (v :: r))
  | vs => forceS (vs ++ dropN vs.length l) k
theorem spliceE_eq (vs l : List α) (k : List α → β) : spliceE vs l k = k (vs ++ dropN vs.length l) := by
  unfold spliceE
  split
  · rename_i v
    cases l <;> rfl
  · exact forceS_eq _ _
def spliceK (vs : List α) (o : Nat) : List α → (List α → β) → β := @Nat.rec (fun _ => List α → (List α → β) → β) (fun l k => spliceE vs l k) (fun _ ih l k => @List.casesOn α (fun _ => β) l (forceS (vs ++ []) k) (fun a r => ih r fun r => k (a :: r))) o
theorem spliceK_eq (vs : List α) : ∀ (o : Nat) (l : List α) (k : List α → β), spliceK vs o l k = k (spliceN vs o l)
  | 0, l, k => spliceE_eq vs l k
  | _ + 1, [], k => forceS_eq _ k
  | o + 1, a :: r, k => spliceK_eq vs o r fun r => k (a :: r)
def forceV0 (v : Value) (k : Value → β) : β := match v with
  | .int d i => match i with
    | .ofNat n => forceN n fun n => k (.int d (.ofNat n))
    | .negSucc n => k (.int d (.negSucc n))
  | .bool b => match b with
    | true => k (.bool true)
    | false => k (.bool false)
  | .pointer a => match a with
    | some ⟨b, o, none⟩ => forceN b fun b => forceN o fun o => k (.pointer (some ⟨b, o, none⟩))
    | a => k (.pointer a)
  | .slice a l c => match a with
    | some ⟨b, o, none⟩ => forceN b fun b => forceN o fun o => forceN l fun l => forceN c fun c => k (.slice (some ⟨b, o, none⟩) l c)
    | a => k (.slice a l c)
  | .map r => match r with
    | some r => forceN r fun r => k (.map (some r))
    | none => k (.map none)
  | v => k v
theorem forceV0_eq (v : Value) (k : Value → β) : forceV0 v k = k v := by
  unfold forceV0
  split
  · split
    · exact forceN_eq _ _
    · rfl
  · split <;> rfl
  · split
    · simp only [forceN_eq]
    · rfl
  · split
    · simp only [forceN_eq]
    · rfl
  · split
    · exact forceN_eq _ _
    · rfl
  · rfl
def forceVF (f : Nat) : List Value → (List Value → β) → β := @Nat.rec (fun _ => List Value → (List Value → β) → β) (fun l k => k l) (fun _ ih l k => @List.casesOn Value (fun _ => β) l (k []) (fun a r => forceV0 a fun a => ih r fun r => k (a :: r))) f
theorem forceVF_eq : ∀ (f : Nat) (l : List Value) (k : List Value → β), forceVF f l k = k l
  | 0, _, _ => rfl
  | _ + 1, [], _ => rfl
  | f + 1, a :: r, k => (forceV0_eq a (fun a => forceVF f r fun r => k (a :: r))).trans (forceVF_eq f r fun r => k (a :: r))
/-- a list whose values have been read -/
def forceVs (l : List Value) (k : List Value → β) : β := forceVF 1000000000 l k
theorem forceVs_eq (l : List Value) (k : List Value → β) : forceVs l k = k l := forceVF_eq 1000000000 l k
/-- a value that has been read -/
def forceV (v : Value) (k : Value → β) : β := match v with
  | .agg c => match c with
    | ⟨l⟩ => forceVs l fun l => k (.agg ⟨l⟩)
  | v => forceV0 v k
theorem forceV_eq (v : Value) (k : Value → β) : forceV v k = k v := by
  unfold forceV
  split
  · exact forceVs_eq _ _
  · exact forceV0_eq _ _
end

/-- where a name lies in a world: its block, the number of the block's cells (of a row), and the size of its elements as slices see it -/
structure Emb where
  blk : Nat
  rows : Nat
  esz : Nat
abbrev Em := Nat → Option Emb

/-- the capacity that is not known -/
def unk : Nat := 2 ^ 70

/-- a value with names stands for a value of a world -/
inductive VR (E : Em) : Value → Value → Prop where
  | bool (b : Bool) : VR E (.bool b) (.bool b)
  | int (k : IntKind) (n : Int) : VR E (.int k n) (.int k n)
  | string (s : ByteArray) : VR E (.string s) (.string s)
  | ptr0 : VR E (.pointer none) (.pointer none)
  | ptr (b o : Nat) (e : Emb) : E b = some e → VR E (.pointer (some ⟨b, o, none⟩)) (.pointer (some ⟨e.blk, o, none⟩))
  | slice0 (l c : Nat) : VR E (.slice none l c) (.slice none l c)
  | slice (b o l c c' : Nat) (e : Emb) : E b = some e → (c = c' ∨ c = unk) → l ≤ c' → (e.esz = 0 ∨ o + c' * e.esz ≤ e.rows) → VR E (.slice (some ⟨b, o, none⟩) l c) (.slice (some ⟨e.blk, o, none⟩) l c')
  | map0 : VR E (.map none) (.map none)
  | map (r : Nat) (e : Emb) : E r = some e → VR E (.map (some r)) (.map (some e.blk))
  | nilFunc : VR E .nilFunc .nilFunc
  | func (fn : Fn) (f f' c c' : Array Value) : f.size = f'.size → (∀ i (h : i < f.size) (h' : i < f'.size), VR E f[i] f'[i]) → c.size = c'.size → (∀ i (h : i < c.size) (h' : i < c'.size), VR E c[i] c'[i]) → VR E (.func fn f c) (.func fn f' c')
  | nilIface : VR E .nilIface .nilIface
  | iface (t : TypeId) (v v' : Value) : VR E v v' → VR E (.iface t v) (.iface t v')
  | agg (c c' : Array Value) : c.size = c'.size → (∀ i (h : i < c.size) (h' : i < c'.size), VR E c[i] c'[i]) → VR E (.agg c) (.agg c')
  | tuple (c c' : Array Value) : c.size = c'.size → (∀ i (h : i < c.size) (h' : i < c'.size), VR E c[i] c'[i]) → VR E (.tuple c) (.tuple c')

/-- lists of such values -/
def LR (E : Em) : List Value → List Value → Prop
  | [], [] => True
  | x :: xs, y :: ys => VR E x y ∧ LR E xs ys
  | _, _ => False

def Ext (E E' : Em) : Prop := ∀ b e, E b = some e → E' b = some e
theorem Ext.refl (E : Em) : Ext E E := fun _ _ h => h
theorem Ext.trans {E F G : Em} (h : Ext E F) (k : Ext F G) : Ext E G := fun b e x => k b e (h b e x)

section
variable {E E' : Em}
theorem VR.ext (hE : Ext E E') {v v' : Value} (h : VR E v v') : VR E' v v' := by
  induction h with
  | bool b => exact .bool b
  | int k n => exact .int k n
  | string s => exact .string s
  | ptr0 => exact .ptr0
  | ptr b o e h => exact .ptr b o e (hE _ _ h)
  | slice0 l c => exact .slice0 l c
  | slice b o l c c' e h h1 h2 h3 => exact .slice b o l c c' e (hE _ _ h) h1 h2 h3
  | map0 => exact .map0
  | map r e h => exact .map r e (hE _ _ h)
  | nilFunc => exact .nilFunc
  | func fn f f' c c' h1 _ h2 _ i1 i2 => exact .func fn f f' c c' h1 i1 h2 i2
  | nilIface => exact .nilIface
  | iface t v v' _ i => exact .iface t v v' i
  | agg c c' h _ i => exact .agg c c' h i
  | tuple c c' h _ i => exact .tuple c c' h i

theorem LR.length : ∀ {xs ys : List Value}, LR E xs ys → xs.length = ys.length
  | [], [], _ => rfl
  | _ :: _, _ :: _, h => by simp [LR.length h.2]
  | [], _ :: _, h => h.elim
  | _ :: _, [], h => h.elim
theorem LR.at : ∀ {xs ys : List Value}, LR E xs ys → ∀ (i : Nat) (x : Value), xs[i]? = some x → ∃ y, ys[i]? = some y ∧ VR E x y
  | [], [], _, i, x, hx => by simp at hx
  | a :: xs, b :: ys, h, i, x, hx => by
    cases i with
    | zero => simp at hx; subst hx; exact ⟨b, rfl, h.1⟩
    | succ i => simpa using LR.at h.2 i x (by simpa using hx)
  | [], _ :: _, h, _, _, _ => h.elim
  | _ :: _, [], h, _, _, _ => h.elim
theorem LR.of_at : ∀ {xs ys : List Value}, xs.length = ys.length → (∀ (i : Nat) (x y : Value), xs[i]? = some x → ys[i]? = some y → VR E x y) → LR E xs ys
  | [], [], _, _ => trivial
  | a :: xs, b :: ys, hl, h => ⟨h 0 a b rfl rfl, LR.of_at (by simpa using hl) fun i x y hx hy => h (i + 1) x y (by simpa using hx) (by simpa using hy)⟩
  | [], _ :: _, hl, _ => by simp at hl
  | _ :: _, [], hl, _ => by simp at hl
theorem LR.ext (hE : Ext E E') : ∀ {xs ys : List Value}, LR E xs ys → LR E' xs ys
  | [], [], _ => trivial
  | _ :: _, _ :: _, h => ⟨h.1.ext hE, LR.ext hE h.2⟩
  | [], _ :: _, h => h.elim
  | _ :: _, [], h => h.elim
theorem LR.append : ∀ {xs ys us vs : List Value}, LR E xs ys → LR E us vs → LR E (xs ++ us) (ys ++ vs)
  | [], [], _, _, _, h => h
  | _ :: _, _ :: _, _, _, h, k => ⟨h.1, LR.append h.2 k⟩
  | [], _ :: _, _, _, h, _ => h.elim
  | _ :: _, [], _, _, h, _ => h.elim
theorem LR.take : ∀ {xs ys : List Value} (n : Nat), LR E xs ys → LR E (xs.take n) (ys.take n)
  | [], [], n, _ => by simp [LR]
  | _ :: _, _ :: _, 0, _ => by simp [LR]
  | _ :: _, _ :: _, n + 1, h => ⟨h.1, LR.take n h.2⟩
  | [], _ :: _, _, h => h.elim
  | _ :: _, [], _, h => h.elim
theorem LR.drop : ∀ {xs ys : List Value} (n : Nat), LR E xs ys → LR E (xs.drop n) (ys.drop n)
  | [], [], n, _ => by simp [LR]
  | _ :: _, _ :: _, 0, h => h
  | _ :: _, _ :: _, n + 1, h => LR.drop n h.2
  | [], _ :: _, _, h => h.elim
  | _ :: _, [], _, h => h.elim
theorem LR.snoc {xs ys : List Value} {x y : Value} (h : LR E xs ys) (k : VR E x y) : LR E (xs ++ [x]) (ys ++ [y]) := h.append ⟨k, trivial⟩
theorem LR.replicate {x y : Value} (h : VR E x y) : ∀ n, LR E (List.replicate n x) (List.replicate n y)
  | 0 => trivial
  | n + 1 => ⟨h, LR.replicate h n⟩
theorem lr_of_arr {c c' : Array Value} (h : c.size = c'.size) (k : ∀ i (h : i < c.size) (h' : i < c'.size), VR E c[i] c'[i]) : LR E c.toList c'.toList :=
  LR.of_at (by simpa using h) fun i x y hx hy => by
    simp only [Array.getElem?_toList] at hx hy
    obtain ⟨h1, rfl⟩ := Array.getElem?_eq_some_iff.1 hx
    obtain ⟨h2, rfl⟩ := Array.getElem?_eq_some_iff.1 hy
    exact k i h1 h2
theorem arr_of_lr {c c' : Array Value} (h : LR E c.toList c'.toList) : c.size = c'.size ∧ ∀ i (h : i < c.size) (h' : i < c'.size), VR E c[i] c'[i] := by
  refine ⟨by simpa using h.length, fun i h1 h2 => ?_⟩
  obtain ⟨y, hy, hv⟩ := h.at i c[i] (by simp [h1])
  simp only [Array.getElem?_toList] at hy
  obtain ⟨_, rfl⟩ := Array.getElem?_eq_some_iff.1 hy
  exact hv
theorem VR.agg' {c c' : Array Value} (h : LR E c.toList c'.toList) : VR E (.agg c) (.agg c') := .agg c c' (arr_of_lr h).1 (arr_of_lr h).2
theorem VR.tuple' {c c' : Array Value} (h : LR E c.toList c'.toList) : VR E (.tuple c) (.tuple c') := .tuple c c' (arr_of_lr h).1 (arr_of_lr h).2
theorem VR.func' {fn : Fn} {f f' c c' : Array Value} (h : LR E f.toList f'.toList) (k : LR E c.toList c'.toList) : VR E (.func fn f c) (.func fn f' c') :=
  .func fn f f' c c' (arr_of_lr h).1 (arr_of_lr h).2 (arr_of_lr k).1 (arr_of_lr k).2
theorem VR.agg_inv {c : Array Value} {v : Value} (h : VR E (.agg c) v) : ∃ c', v = .agg c' ∧ LR E c.toList c'.toList := by
  cases h with
  | agg c c' h k => exact ⟨c', rfl, lr_of_arr h k⟩
theorem VR.tuple_inv {c : Array Value} {v : Value} (h : VR E (.tuple c) v) : ∃ c', v = .tuple c' ∧ LR E c.toList c'.toList := by
  cases h with
  | tuple c c' h k => exact ⟨c', rfl, lr_of_arr h k⟩
theorem VR.func_inv {fn : Fn} {f c : Array Value} {v : Value} (h : VR E (.func fn f c) v) : ∃ f' c', v = .func fn f' c' ∧ LR E f.toList f'.toList ∧ LR E c.toList c'.toList := by
  cases h with
  | func fn f f' c c' h k h' k' => exact ⟨f', c', rfl, lr_of_arr h k, lr_of_arr h' k'⟩
theorem VR.undef : VR E undef undef := VR.tuple' (c := #[]) (c' := #[]) trivial

/-- the cells of a value -/
theorem VR.cells {v v' : Value} (h : VR E v v') : LR E v.cells.toList v'.cells.toList := by
  cases h with
  | agg c c' h k => exact lr_of_arr h k
  | _ => exact ⟨by first | exact .bool _ | exact .int _ _ | exact .string _ | exact .ptr0 | exact .ptr _ _ _ ‹_› | exact .slice0 _ _ | exact .slice _ _ _ _ _ _ ‹_› ‹_› ‹_› ‹_› | exact .map0 | exact .map _ _ ‹_› | exact .nilFunc | exact .func _ _ _ _ _ ‹_› ‹_› ‹_› ‹_› | exact .nilIface | exact .iface _ _ _ ‹_› | exact .tuple _ _ ‹_› ‹_›, trivial⟩
theorem VR.one {v v' : Value} (h : VR E v v') : v'.oneCell' = v.oneCell' := by cases h <;> rfl

/-- a value of one cell without names -/
def bare0 : Value → Bool
  | .bool _ | .int _ _ | .string _ | .pointer none | .slice none _ _ | .map none | .nilFunc | .nilIface => true
  | .func _ f c => f.isEmpty && c.isEmpty
  | _ => false
def bare1 : Value → Bool
  | .agg c | .tuple c => c.toList.all bare0
  | .iface _ v => bare0 v
  | v => bare0 v
/-- a value without names, at most three levels deep -/
def bare : Value → Bool
  | .agg c | .tuple c => c.toList.all bare1
  | .iface _ v => bare1 v
  | v => bare0 v

theorem arr_eq_of_lr {xs ys : List Value} (h : LR E xs ys) (he : ∀ x ∈ xs, ∀ y, VR E x y → y = x) : ys = xs := by
  induction xs generalizing ys with
  | nil => cases ys with
    | nil => rfl
    | cons => exact h.elim
  | cons x xs ih => cases ys with
    | nil => exact h.elim
    | cons y ys => rw [he x (by simp) y h.1, ih h.2 fun z hz => he z (by simp [hz])]
theorem bare0_eq {v v' : Value} (hb : bare0 v = true) (h : VR E v v') : v' = v := by
  cases h with
  | func fn f f' c c' h1 k1 h2 k2 =>
    simp only [bare0, Bool.and_eq_true, Array.isEmpty_iff] at hb
    obtain ⟨rfl, rfl⟩ := hb
    have e1 : f' = #[] := Array.eq_empty_of_size_eq_zero (by simpa using h1.symm)
    have e2 : c' = #[] := Array.eq_empty_of_size_eq_zero (by simpa using h2.symm)
    subst e1; subst e2; rfl
  | _ => first | rfl | (simp [bare0] at hb)
theorem bare1_eq {v v' : Value} (hb : bare1 v = true) (h : VR E v v') : v' = v := by
  have h0 := h
  cases h with
  | agg c c' h1 k1 =>
    have e := arr_eq_of_lr (lr_of_arr h1 k1) fun x hx y hy => bare0_eq (List.all_eq_true.1 hb x hx) hy
    rw [Array.toList_inj.1 e]
  | tuple c c' h1 k1 =>
    have e := arr_eq_of_lr (lr_of_arr h1 k1) fun x hx y hy => bare0_eq (List.all_eq_true.1 hb x hx) hy
    rw [Array.toList_inj.1 e]
  | iface t v v' h => rw [bare0_eq (v := v) hb h]
  | _ => exact bare0_eq hb h0
theorem bare_eq {v v' : Value} (hb : bare v = true) (h : VR E v v') : v' = v := by
  have h0 := h
  cases h with
  | agg c c' h1 k1 =>
    have e := arr_eq_of_lr (lr_of_arr h1 k1) fun x hx y hy => bare1_eq (List.all_eq_true.1 hb x hx) hy
    rw [Array.toList_inj.1 e]
  | tuple c c' h1 k1 =>
    have e := arr_eq_of_lr (lr_of_arr h1 k1) fun x hx y hy => bare1_eq (List.all_eq_true.1 hb x hx) hy
    rw [Array.toList_inj.1 e]
  | iface t v v' h => rw [bare1_eq (v := v) hb h]
  | _ => exact bare0_eq hb h0
theorem LR.self {xs : List Value} (h : ∀ x ∈ xs, VR E x x) : LR E xs xs := by
  induction xs with
  | nil => trivial
  | cons x xs ih => exact ⟨h x (by simp), ih fun y hy => h y (by simp [hy])⟩
theorem bare0_self (v : Value) (hb : bare0 v = true) : VR E v v := by
  cases v with
  | bool b => exact .bool b
  | int k n => exact .int k n
  | string s => exact .string s
  | pointer a => cases a with
    | none => exact .ptr0
    | some a => simp [bare0] at hb
  | slice a l c => cases a with
    | none => exact .slice0 l c
    | some a => simp [bare0] at hb
  | map r => cases r with
    | none => exact .map0
    | some a => simp [bare0] at hb
  | nilFunc => exact .nilFunc
  | nilIface => exact .nilIface
  | func fn f c =>
    simp only [bare0, Bool.and_eq_true, Array.isEmpty_iff] at hb
    obtain ⟨rfl, rfl⟩ := hb
    exact VR.func' trivial trivial
  | _ => simp [bare0] at hb
theorem bare1_self (v : Value) (hb : bare1 v = true) : VR E v v := by
  cases v with
  | agg c => exact VR.agg' (LR.self fun x hx => bare0_self x (List.all_eq_true.1 hb x hx))
  | tuple c => exact VR.tuple' (LR.self fun x hx => bare0_self x (List.all_eq_true.1 hb x hx))
  | iface t v => exact .iface t v v (bare0_self v hb)
  | _ => exact bare0_self _ hb
theorem bare_self (v : Value) (hb : bare v = true) : VR E v v := by
  cases v with
  | agg c => exact VR.agg' (LR.self fun x hx => bare1_self x (List.all_eq_true.1 hb x hx))
  | tuple c => exact VR.tuple' (LR.self fun x hx => bare1_self x (List.all_eq_true.1 hb x hx))
  | iface t v => exact .iface t v v (bare1_self v hb)
  | _ => exact bare0_self _ hb
end
end Go.Proofs.YtcnclcfglfgjlaaGreatDoor.Cx
