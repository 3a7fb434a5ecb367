/- A machine that runs a program's code on written inputs by computation alone, part 3: the machine itself. No condition. -/
import Derived.Test.YtcnclcfglfgjlaaGreatDoorCxHeap
import GoSem.Dispatch
import Derived.Orders
namespace Go.Proofs.YtcnclcfglfgjlaaGreatDoor.Cx
open Go

/-- what a piece of the model's text yields without looking at the world -/
def pureRun (P : Program) {α : Type} : Sem α → Option α
  | .pure a => some a
  | .program k => pureRun P (k P)
  | _ => none

structure HS where
  heap : Tr AObj
  next : Nat
  log : List Nat

structure AF where
  tmps : Tr Value
  size : Nat
  defers : List (FuncId × List Value)

inductive AX where
  | normal
  | exit (id : Nat)
  | ret

def lim : Nat := 2 ^ 30

def HS.at (s : HS) (b : Nat) : Option AObj := s.heap.get b
def forceO {β : Type} (o : AObj) (k : AObj → β) : β := match o with
  | .row cs e z => forceVs cs fun cs => k (.row cs e z)
  | o => k o
theorem forceO_eq {β : Type} (o : AObj) (k : AObj → β) : forceO o k = k o := by
  unfold forceO
  split
  · exact forceVs_eq _ _
  · rfl
def HS.new (s : HS) (o : AObj) : Option HS := match s with
  | ⟨h, nx, lg⟩ => match Nat.ble nx lim with
    | true => forceO o fun o => setK deep h nx (some o) fun h => forceN (nx + 1) fun nx => some ⟨h, nx, lg⟩
    | false => none
def HS.put (s : HS) (b : Nat) (o : AObj) : Option HS := match s with
  | ⟨h, nx, lg⟩ => match Nat.ble b lim with
    | true => setK deep h b (some o) fun h => some ⟨h, nx, b :: lg⟩
    | false => none
def HS.take (s : HS) (b : Nat) (o : AObj) : Option HS := match s with
  | ⟨h, nx, lg⟩ => match Nat.ble b lim, Nat.ble nx lim with
    | true, true => setK deep h b none fun h => setK deep h nx (some o) fun h => forceN (nx + 1) fun nx => some ⟨h, nx, b :: lg⟩
    | _, _ => none
theorem HS.new_old (s : HS) (o : AObj) : s.new o = match Nat.ble s.next lim with
    | true => some ⟨s.heap.set deep s.next (some o), s.next + 1, s.log⟩
    | false => none := by
  obtain ⟨h, nx, lg⟩ := s
  simp only [HS.new, forceO_eq, setK_eq, forceN_eq]
theorem HS.put_old (s : HS) (b : Nat) (o : AObj) : s.put b o = match Nat.ble b lim with
    | true => some ⟨s.heap.set deep b (some o), s.next, b :: s.log⟩
    | false => none := by
  obtain ⟨h, nx, lg⟩ := s
  simp only [HS.put, setK_eq]
theorem HS.take_old (s : HS) (b : Nat) (o : AObj) : s.take b o = match Nat.ble b lim, Nat.ble s.next lim with
    | true, true => some ⟨(s.heap.set deep b none).set deep s.next (some o), s.next + 1, b :: s.log⟩
    | _, _ => none := by
  obtain ⟨h, nx, lg⟩ := s
  simp only [HS.take, setK_eq, forceN_eq]

def AF.get (f : AF) (t : Nat) : Value := (f.tmps.get t).getD undef
def AF.put (f : AF) (t : Nat) (v : Value) : Option AF := match f with
  | ⟨tm, sz, df⟩ => match Nat.blt t sz, Nat.ble t lim with
    | true, true => forceV v fun v => setK deep tm t (some v) fun tm => some ⟨tm, sz, df⟩
    | _, _ => none
theorem AF.put_old (f : AF) (t : Nat) (v : Value) : f.put t v = match Nat.blt t f.size, Nat.ble t lim with
    | true, true => some ⟨f.tmps.set deep t (some v), f.size, f.defers⟩
    | _, _ => none := by
  obtain ⟨tm, sz, df⟩ := f
  simp only [AF.put, forceV_eq, setK_eq]
def AF.putO (f : AF) (t : Option Nat) (v : Value) : Option AF := match t with
  | none => some f
  | some t => f.put t v

def ev (f : AF) : Operand → Value
  | .tmp t => f.get t
  | .const v => v
  | .global g => .pointer (some ⟨g, 0, none⟩)
  | .func f => .func (.func f) #[] #[]
/-- a call whose outcome is known: the kept heap that it looks at, the names that it makes, its result and what it leaves -/
structure Known where
  fn : Nat
  args : List Value
  inH : List (Nat × AObj)
  n0 : Nat
  v : Value
  outH : List (Nat × AObj)
  n1 : Nat
structure Gl where
  vars : List Nat
  known : List Known
/-- an operand that may be read: a written value without names -/
def okOp (G : Gl) : Operand → Bool
  | .tmp _ => true
  | .const v => bare v
  | .global g => G.vars.contains g
  | .func _ => true

def allL (G : Gl) : List Operand → Bool
  | [] => true
  | x :: r => match okOp G x with
    | true => allL G r
    | false => false
/-- may all operands be read? -/
def allOk (G : Gl) (op : Op) : Bool := match op with
  | .move x => okOp G x
  | .load _ x => okOp G x
  | .store _ x y => okOp G x && okOp G y
  | .binOp _ _ x y _ => okOp G x && okOp G y
  | .fieldAddr _ x _ => okOp G x
  | .indexAddr _ x y => okOp G x && okOp G y
  | .index _ x y => okOp G x && okOp G y
  | .field _ x _ => okOp G x
  | .extract x _ => okOp G x
  | .call c => allL G (match c.callee with | .value f => f :: c.args.toList | .invoke r _ => r :: c.args.toList | .builtin _ => c.args.toList)
  | op => op.operands.all (okOp G)
theorem allL_eq (G : Gl) : ∀ l : List Operand, allL G l = l.all (okOp G)
  | [] => rfl
  | x :: r => by
    simp only [allL, List.all_cons, allL_eq G r]
    cases okOp G x <;> rfl
theorem allOk_eq (G : Gl) (op : Op) : allOk G op = op.operands.all (okOp G) := by
  cases op <;> first | rfl | (simp [allOk, Op.operands]; done) | skip
  rename_i c
  obtain ⟨callee, args, ts⟩ := c
  cases callee <;> simp [allOk, Op.operands, Call.operands, allL_eq]

def sizeT (P : Program) (t : TypeId) : Option Nat := match P.info? t with
  | some i => some i.size
  | none => none
def aggT (P : Program) (t : TypeId) : Option Bool := match P.underlying t with
  | some (.struct _) => some true
  | some (.array _ _) => some true
  | some _ => some false
  | none => none
def partA (P : Program) (t : TypeId) (cs : Array Value) (off : Nat) : Option Value := match aggT P t with
  | some true => match sizeT P t with
    | some n => match Nat.ble (off + n) cs.size with
      | true => some (.agg (cs.extract off (off + n)))
      | false => none
    | none => none
  | some false => cs[off]?
  | none => none

def inRange (i : Int) (n : Nat) : Option Nat := match i with
  | .ofNat m => match Nat.blt m n with
    | true => some m
    | false => none
  | .negSucc _ => none
def upTo (i : Int) (n : Nat) : Option Nat := match i with
  | .ofNat m => match Nat.ble m n with
    | true => some m
    | false => none
  | .negSucc _ => none

def fieldAddrA (P : Program) (t : TypeId) (x : Value) (i : Nat) : Option Value := match P.underlying t, x with
  | some (.struct fs), .pointer (some ⟨b, o, none⟩) => match fs[i]? with
    | some fd => match sizeT P fd.type with
      | some (_ + 1) => some (.pointer (some ⟨b, o + fd.offset, none⟩))
      | _ => none
    | none => none
  | _, _ => none
def indexAddrA (P : Program) (t : TypeId) (x ix : Value) : Option Value := match P.underlying t, x, ix with
  | some (.slice e), .slice (some ⟨b, o, none⟩) n _, .int _ i => match inRange i n, sizeT P e with
    | some j, some z => some (.pointer (some ⟨b, o + j * z, none⟩))
    | _, _ => none
  | some (.array n e), .pointer (some ⟨b, o, none⟩), .int _ i => match inRange i n, sizeT P e with
    | some j, some z => some (.pointer (some ⟨b, o + j * z, none⟩))
    | _, _ => none
  | _, _, _ => none
def fieldA (P : Program) (t : TypeId) (x : Value) (i : Nat) : Option Value := match P.underlying t, x with
  | some (.struct fs), .agg cs => match fs[i]? with
    | some fd => partA P fd.type cs fd.offset
    | none => none
  | _, _ => none
def indexA (P : Program) (t : TypeId) (x ix : Value) : Option Value := match P.underlying t, x, ix with
  | some (.array n e), .agg cs, .int _ i => match inRange i n, sizeT P e with
    | some j, some z => partA P e cs (j * z)
    | _, _ => none
  | _, _, _ => none

/-- the bounds of a slice expression over n elements of which m may be reached -/
def boundA (x : Option Value) (d n : Nat) : Option Nat := match x with
  | none => some d
  | some (.int _ i) => upTo i n
  | some _ => none
def topOf (c n : Nat) : Nat := match Nat.beq c unk with
  | true => n
  | false => c
def sliceA (P : Program) (s : HS) (t : TypeId) (x : Value) (lo hi mx : Option Value) : Option Value := match P.underlying t, x with
  | some (.slice e), .slice (some ⟨b, o, none⟩) n c => match s.heap.get b with
    | some (.row _ _ z0) => match sizeT P e with
      | some z => match Nat.beq z0 z || Nat.beq z0 0 with
        | true => match mx with
          | none => match boundA hi n (topOf c n) with
            | some h => match boundA lo 0 h with
              | some l => match Nat.beq c unk with
                | true => match Nat.blt l n with
                  | true => some (.slice (some ⟨b, o + l * z, none⟩) (h - l) unk)
                  | false => none
                | false => match Nat.beq c l with
                  | true => some (.slice (some ⟨b, o, none⟩) (h - l) 0)
                  | false => some (.slice (some ⟨b, o + l * z, none⟩) (h - l) (c - l))
              | none => none
            | none => none
          | some (.int _ m) => match upTo m (topOf c n), hi with
            | some m, some h => match boundA (some h) 0 m with
              | some h => match boundA lo 0 h with
                | some l => match Nat.beq m l with
                  | true => some (.slice (some ⟨b, o, none⟩) (h - l) 0)
                  | false => some (.slice (some ⟨b, o + l * z, none⟩) (h - l) (m - l))
                | none => none
              | none => none
            | _, _ => none
          | _ => none
        | false => none
      | none => none
    | _ => none
  | some (.slice e), .slice none 0 0 => match sizeT P e, mx with
    | some _, none => match boundA hi 0 0, boundA lo 0 0 with
      | some _, some _ => some (.slice none 0 0)
      | _, _ => none
    | _, _ => none
  | some (.array n e), .pointer (some ⟨b, o, none⟩) => match s.heap.get b, mx, sizeT P e with
    | some (.row _ _ 0), none, some z => match boundA hi n n with
      | some h => match boundA lo 0 h with
        | some l => match Nat.beq n l with
          | true => some (.slice (some ⟨b, o, none⟩) (h - l) 0)
          | false => some (.slice (some ⟨b, o + l * z, none⟩) (h - l) (n - l))
        | none => none
      | none => none
    | _, _, _ => none
  | _, _ => none

def buildA (P : Program) (t : TypeId) (parts : Array (Nat × Value)) : Option Value := match P.info? t with
  | some i => match i.zero with
    | some z => match bare z with
      | true => match P.underlying t with
        | some (.struct fs) => match fs.toList.mapM (fun f => (sizeT P f.type).map fun n => (f.offset, n)) with
          | some pl => match Instr.fill (pl[·]?) z.cells parts.toList with
            | some cs => some (.agg cs)
            | none => none
          | none => none
        | some (.array _ e) => match sizeT P e with
          | some n => match Instr.fill (fun i => some (i * n, n)) z.cells parts.toList with
            | some cs => some (.agg cs)
            | none => none
          | none => none
        | _ => none
      | false => none
    | none => none
  | none => none

def byteList (s : ByteArray) : List UInt8 := s.data.toList
def bytesBeq : List UInt8 → List UInt8 → Bool
  | [], [] => true
  | a :: x, b :: y => match Nat.beq a.toNat b.toNat with
    | true => bytesBeq x y
    | false => false
  | _, _ => false
def bytesLess : List UInt8 → List UInt8 → Bool
  | _, [] => false
  | [], _ :: _ => true
  | a :: x, b :: y => match Nat.blt a.toNat b.toNat with
    | true => true
    | false => match Nat.beq a.toNat b.toNat with
      | true => bytesLess x y
      | false => false
def stringA (op : BinOp) (x y : ByteArray) : Option Value := match op with
  | .add => match Nat.ble (x.size + y.size) lim with
    | true => some (.string ⟨(x.data.toList ++ y.data.toList).toArray⟩)
    | false => none
  | .eql => some (.bool (bytesBeq (byteList x) (byteList y)))
  | .neq => some (.bool (!bytesBeq (byteList x) (byteList y)))
  | .lss => some (.bool (bytesLess (byteList x) (byteList y)))
  | .leq => some (.bool (bytesLess (byteList x) (byteList y) || bytesBeq (byteList x) (byteList y)))
  | .gtr => some (.bool (!(bytesLess (byteList x) (byteList y) || bytesBeq (byteList x) (byteList y))))
  | .geq => some (.bool (!bytesLess (byteList x) (byteList y)))
  | _ => none
/-- equality with nil, and of equal parts that hold names -/
def eqNil (d : TypeDesc) (x y : Value) : Option Bool := match d, x, y with
  | .pointer _, .pointer (some _), .pointer none => some false
  | .pointer _, .pointer none, .pointer (some _) => some false
  | .slice _, .slice (some _) _ _, .slice none _ _ => some false
  | .slice _, .slice none _ _, .slice (some _) _ _ => some false
  | .map _ _, .map (some _), .map none => some false
  | .map _ _, .map none, .map (some _) => some false
  | .func _ _ _, .nilFunc, .func _ _ _ => some false
  | .func _ _ _, .func _ _ _, .nilFunc => some false
  | .interface _, .nilIface, .iface _ _ => some false
  | .interface _, .iface _ _, .nilIface => some false
  | _, _, _ => none
def topK : IntKind → Nat
  | .i8 => 127
  | .u8 => 255
  | .i16 => 32767
  | .u16 => 65535
  | .i32 => 2147483647
  | .u32 => 4294967295
  | .i64 => 9223372036854775807
  | .u64 => 18446744073709551615
def intK (k : IntKind) (n : Nat) : Option Value := match Nat.ble n (topK k) with
  | true => some (.int k (.ofNat n))
  | false => none
/-- numbers that are not negative -/
def natBin (op : BinOp) (k : IntKind) (a b : Nat) : Option Value := match op with
  | .add => intK k (a + b)
  | .sub => match Nat.ble b a with
    | true => intK k (a - b)
    | false => none
  | .mul => intK k (a * b)
  | .lss => some (.bool (Nat.blt a b))
  | .leq => some (.bool (Nat.ble a b))
  | .gtr => some (.bool (Nat.blt b a))
  | .geq => some (.bool (Nat.ble b a))
  | .eql => some (.bool (Nat.beq a b))
  | .neq => some (.bool (!Nat.beq a b))
  | _ => none
def binSlow (P : Program) (o : Oper) (op : BinOp) (t : TypeId) (f : AF) (u v : Value) : Option Value := match bare u && bare v with
  | true => match pureRun P (execOp (ev f) o) with
    | some (.value r) => match bare r with
      | true => some r
      | false => none
    | _ => none
  | false => match P.underlying t with
    | some d => match op, eqNil d u v with
      | .eql, some b => some (.bool b)
      | .neq, some b => some (.bool (!b))
      | _, _ => none
    | none => none
def natPair (x y : Value) : Option (IntKind × Nat × Nat) := match x with
  | .int k i => match i with
    | .ofNat a => match y with
      | .int k' j => match j with
        | .ofNat b => match Nat.beq k.ctorIdx k'.ctorIdx with
          | true => some (k, a, b)
          | false => none
        | _ => none
      | _ => none
    | _ => none
  | _ => none
def strPair (x y : Value) : Option (ByteArray × ByteArray) := match x with
  | .string a => match y with
    | .string b => some (a, b)
    | _ => none
  | _ => none
def binA (P : Program) (o : Oper) (op : BinOp) (t : TypeId) (f : AF) (x y : Operand) : Option Value := match natPair (ev f x) (ev f y) with
  | some (k, a, b) => match natBin op k a b with
    | some v => some v
    | none => binSlow P o op t f (ev f x) (ev f y)
  | none => match strPair (ev f x) (ev f y) with
    | some (a, b) => stringA op a b
    | none => binSlow P o op t f (ev f x) (ev f y)
/-- conversion of a number that is not negative to a kind of numbers -/
def convNat (P : Program) (src dst : TypeId) (x : Value) : Option Value := match x with
  | .int _ i => match i with
    | .ofNat a => match P.underlying src, P.underlying dst with
      | some _, some (.int k) => intK k a
      | _, _ => none
    | _ => none
  | _ => none
def slowOp (P : Program) (f : AF) (o : Oper) : Option Value := match o.op.operands.all fun x => bare (ev f x) with
  | true => match pureRun P (execOp (ev f) o) with
    | some (.value r) => match bare r with
      | true => some r
      | false => none
    | _ => none
  | false => none

/-- an operation that does not look at the heap -/
def heapless (P : Program) (f : AF) (o : Oper) : Option Value := match o.op with
  | .move x | .assign x => some (ev f x)
  | .pick c a b => match ev f c with
    | .bool true => some (ev f a)
    | .bool false => some (ev f b)
    | _ => none
  | .nilCheck x => match ev f x with
    | .pointer (some a) => some (.pointer (some a))
    | .func (.func g) a c => some (.func (.func g) a c)
    | .map r => some (.map r)
    | _ => none
  | .extract x i => match ev f x with
    | .tuple vs => vs[i]?
    | _ => none
  | .field t x i => fieldA P t (ev f x) i
  | .build t parts => buildA P t (parts.map fun (i, x) => (i, ev f x))
  | .makeInterface t x => match P.underlying t with
    | some (.interface _) | none => none
    | some _ => some (.iface t (ev f x))
  | .makeFunc fn first captured => some (.func fn (first.map (ev f)) (captured.map (ev f)))
  | .fieldAddr t x i => fieldAddrA P t (ev f x) i
  | .indexAddr t x i => indexAddrA P t (ev f x) (ev f i)
  | .binOp op t x y _ => binA P o op t f x y
  | .slice t x lo hi mx => match ev f x, P.underlying t with
    | .string s, some .string => match boundA (hi.map (ev f)) s.size s.size with
      | some h => match boundA (lo.map (ev f)) 0 h, mx with
        | some l, none => some (.string ⟨(takeN (h - l) (dropN l s.data.toList)).toArray⟩)
        | _, _ => none
      | none => none
    | _, _ => none
  | .index t x i => match ev f x, ev f i, P.underlying t with
    | .string s, .int _ j, some .string => match inRange j s.size with
      | some j => match nth s.data.toList j with
        | some b => some (.int .u8 b.toNat)
        | none => none
      | none => none
    | u, v, _ => indexA P t u v
  | .call ⟨.builtin .len, args, ts⟩ => match args.toList.map (ev f), ts.toList with
    | [.slice _ n _], [t] => match P.underlying t with
      | some (.slice _) => some (.int .i64 n)
      | _ => none
    | [.string s], [t] => match P.underlying t with
      | some .string => some (.int .i64 s.size)
      | _ => none
    | _, _ => none
  | .convert src dst x => match convNat P src dst (ev f x) with
    | some v => some v
    | none => slowOp P f o
  | .unOp .. | .typeAssert .. | .call ⟨.builtin .min, _, _⟩ | .call ⟨.builtin .max, _, _⟩ => slowOp P f o
  | _ => none

def ptrA : Value → Option (Nat × Nat)
  | .pointer (some ⟨b, o, none⟩) => some (b, o)
  | _ => none
def zeroT (P : Program) (t : TypeId) : Option Value := match P.info? t with
  | some i => match i.zero with
    | some z => match bare z with
      | true => match Nat.beq z.cells.size i.size with
        | true => some z
        | false => none
      | false => none
    | none => none
  | none => none
/-- n cells that begin at o -/
def cellsA (cs : List Value) (o n : Nat) : Option (List Value) := match lenIs n (takeN n (dropN o cs)) with
  | true => some (takeN n (dropN o cs))
  | false => none
theorem nbeq_comm (a b : Nat) : Nat.beq a b = Nat.beq b a := by
  by_cases h : a = b
  · subst h; rfl
  · rw [nbeq_f h, nbeq_f (Ne.symm h)]
theorem cellsA_old (cs : List Value) (o n : Nat) : cellsA cs o n = match Nat.beq ((cs.drop o).take n).length n with
  | true => some ((cs.drop o).take n)
  | false => none := by
  unfold cellsA
  rw [lenIs_eq, takeN_eq, dropN_eq, nbeq_comm]
def loadA (P : Program) (s : HS) (t : TypeId) (x : Value) : Option Value := match ptrA x with
  | some (b, o) => match s.at b with
    | some (.row cs _ _) => match aggT P t, sizeT P t with
      | some true, some n => match cellsA cs o n with
        | some xs => some (.agg xs.toArray)
        | none => none
      | some false, _ => nth cs o
      | _, _ => none
    | _ => none
  | none => none
def splice (cs : List Value) (o : Nat) (vs : List Value) : List Value := cs.take o ++ (vs ++ cs.drop (o + vs.length))
theorem splice_eq (vs : List Value) (o : Nat) (cs : List Value) : spliceN vs o cs = splice cs o vs := spliceN_eq vs o cs
def storeRow (s : HS) (b o : Nat) (vs : List Value) : Option HS := match vs.all (·.oneCell') with
  | true => match s.at b with
    | some (.row cs e z) => match Nat.ble (o + vs.length) cs.length with
      | true => spliceK vs o cs fun cs => s.put b (.row cs e z)
      | false => none
    | _ => none
  | false => none
def storeA (P : Program) (s : HS) (t : TypeId) (x v : Value) : Option HS := match ptrA x, sizeT P t with
  | some (b, o), some n => match Nat.beq v.cells.size n with
    | true => storeRow s b o v.cells.toList
    | false => none
  | _, _ => none
def newVarA (s : HS) (t : TypeId) (v : Value) : Option (Value × HS) := match s.new (.row v.cells.toList t 0) with
  | some s' => some (.pointer (some ⟨s.next, 0, none⟩), s')
  | none => none
/-- a row of n zero elements, as the model writes it -/
def zeros (z : Array Value) (n : Nat) : Array Value := (Array.range n).map (z[· % z.size]!)
def newRowA (s : HS) (e z : Nat) (cs : List Value) (len cap : Nat) : Option (Value × HS) := match s.new (.row cs e z) with
  | some s' => some (.slice (some ⟨s.next, 0, none⟩) len cap, s')
  | none => none
def buildSliceA (P : Program) (s : HS) (t : TypeId) (len : Nat) (parts : Array (Nat × Value)) : Option (Value × HS) := match P.underlying t with
  | some (.slice e) => match sizeT P e, zeroT P e with
    | some (z + 1), some zv => match Nat.ble (len * (z + 1)) 10000 && zv.cells.toList.all bare0 with
      | true => match len with
        | 0 => match parts.toList with
          | [] => newRowA s e (z + 1) [] 0 0
          | _ :: _ => none
        | n + 1 => match Instr.fill (fun i => some (i * (z + 1), z + 1)) (zeros zv.cells ((n + 1) * (z + 1))) parts.toList with
          | some cs => newRowA s e (z + 1) cs.toList (n + 1) (n + 1)
          | none => none
      | false => none
    | _, _ => none
  | _ => none
def makeSliceA (P : Program) (s : HS) (t : TypeId) (l c : Value) : Option (Value × HS) := match P.underlying t with
  | some (.slice e) => match l, c with
    | .int _ li, .int _ ci => match upTo li 100000, upTo ci 100000 with
      | some l, some c => match P.info? e, zeroT P e with
        | some i, some zv => match i.size with
          | z + 1 => match Nat.ble l c && (Nat.ble i.bytes 100000 && zv.cells.toList.all bare0) with
            | true => newRowA s e (z + 1) (zeros zv.cells (c * (z + 1))).toList l c
            | false => none
          | 0 => none
        | _, _ => none
      | _, _ => none
    | _, _ => none
  | _ => none
/-- the cells of a slice or a string that is appended or copied -/
def sourceA (s : HS) (z n : Nat) (x : Value) : Option (List Value) := match x with
  | .slice none _ _ => match n with
    | 0 => some []
    | _ => none
  | .slice (some ⟨b, o, none⟩) _ _ => match s.at b with
    | some (.row cs _ _) => cellsA cs o (n * z)
    | _ => none
  | .string t => match Nat.beq z 1 with
    | true => some ((t.data.toList.take n).map fun b => .int .u8 b.toNat)
    | false => none
  | _ => none
def lenA : Value → Option Nat
  | .slice _ n _ => some n
  | .string s => some s.size
  | _ => none
def appendTo (s : HS) (e z n : Nat) (new : List Value) (x : Value) : Option (Value × HS) := match x with
  | .slice none 0 0 => match n with
    | 0 => some (.slice none 0 0, s)
    | n + 1 => newRowA s e z new (n + 1) unk
  | .slice (some ⟨b, o, none⟩) l c => match s.at b with
    | some (.row cs t1 z1) => match Nat.beq z1 z && (Nat.ble l 100000 && Nat.beq t1 e) with
      | false => none
      | true => match Nat.beq c unk with
        | true => match n with
          | 0 => some (.slice (some ⟨b, o, none⟩) l unk, s)
          | n + 1 => match lenIs (l * z) cs && Nat.beq o 0 with
            | true => match apK new cs fun cs => s.take b (.row cs e z) with
              | some s' => some (.slice (some ⟨s.next, 0, none⟩) (l + (n + 1)) unk, s')
              | none => none
            | false => none
        | false => match Nat.ble (l + n) c with
          | true => match storeRow s b (o + l * z) new with
            | some s' => some (.slice (some ⟨b, o, none⟩) (l + n) c, s')
            | none => none
          | false => match cellsA cs o (l * z) with
            | some old => newRowA s e z (old ++ new) (l + n) unk
            | none => none
    | _ => none
  | _ => none
def notInt : TypeDesc → Bool
  | .string => true
  | .slice _ => true
  | _ => false
def appendA (P : Program) (s : HS) (t u : TypeId) (x y : Value) : Option (Value × HS) := match P.underlying t, P.underlying u with
  | some (.slice e), some ud => match P.info? e, zeroT P e, lenA y with
    | some i, some zv, some n => match i.size with
      | 0 => none
      | z + 1 => match Nat.ble i.bytes 100000 && (Nat.ble n 100000 && (zv.cells.toList.all bare0 && notInt ud)) with
        | false => none
        | true => match sourceA s (z + 1) n y with
          | none => none
          | some new => match new.all (·.oneCell') with
            | false => none
            | true => appendTo s e (z + 1) n new x
    | _, _, _ => none
  | _, _ => none
def copyA (P : Program) (s : HS) (t : TypeId) (x y : Value) : Option (Value × HS) := match P.underlying t, x, lenA y with
  | some (.slice e), .slice base l _, some n => match sizeT P e with
    | some z => match sourceA s z (Nat.min n l) y with
      | some new => match base with
        | some ⟨b, o, none⟩ => match storeRow s b o new with
          | some s' => some (.int .i64 (Nat.min n l), s')
          | none => none
        | none => some (.int .i64 (Nat.min n l), s)
        | _ => none
      | none => none
    | none => none
  | _, _, _ => none
def toBytes : List Value → Option (List UInt8)
  | [] => some []
  | .int .u8 n :: r => match toBytes r with
    | some l => some (UInt8.ofNat n.toNat :: l)
    | none => none
  | _ => none
def convA (P : Program) (s : HS) (src dst : TypeId) (x : Value) : Option (Value × HS) := match P.underlying src, P.underlying dst, x with
  | some (.slice e), some .string, .slice a n _ => match P.underlying e with
    | some (.int .u8) => match a with
      | none => some (.string .empty, s)
      | some ⟨b, o, none⟩ => match s.at b with
        | some (.row cs _ _) => match cellsA cs o n with
          | some xs => match toBytes xs with
            | some l => some (.string ⟨l.toArray⟩, s)
            | none => none
          | none => none
        | _ => none
      | _ => none
    | _ => none
  | some .string, some (.slice e), .string t => match P.underlying e with
    | some (.int .u8) => newRowA s e 1 (t.data.toList.map fun b => .int .u8 b.toNat) t.size unk
    | _ => none
  | _, _, _ => none
def findA (P : Program) (kt : TypeId) (k : Value) : List MapEntry → Nat → Option (Option (Nat × Value))
  | [], _ => some none
  | e :: es, i => match bare e.key with
    | true => match pureRun P (Op.equal kt k e.key) with
      | some true => some (some (i, e.val))
      | some false => findA P kt k es (i + 1)
      | none => none
    | false => none
def lookupA (P : Program) (s : HS) (t : TypeId) (m k : Value) (ok : Bool) : Option Value := match P.underlying t, bare k with
  | some (.map kt et), true => match m, zeroT P et with
    | .map r, some z => match (match r with | none => some [] | some r => match s.at r with | some (.map es _) => some es | _ => none) with
      | some es => match pureRun P (Instr.checkKey es.isEmpty 10000 kt k), findA P kt k es 0 with
        | some _, some (some (_, v)) => some (match ok with | true => .tuple #[v, .bool true] | false => v)
        | some _, some none => some (match ok with | true => .tuple #[z, .bool false] | false => z)
        | _, _ => none
      | none => none
    | _, _ => none
  | _, _ => none
def mapUpdateA (P : Program) (s : HS) (t : TypeId) (m k v : Value) : Option HS := match P.underlying t, bare k, m with
  | some (.map kt _), true, .map (some r) => match s.at r with
    | some (.map es c) => match pureRun P (Instr.checkKey false 10000 kt k), findA P kt k es 0 with
      | some _, some (some (i, _)) => match es[i]? with
        | some e => match Instr.sameBits 10000 e.key k with
          | true => forceS (es.modify i fun e => { e with key := k, val := v }) fun es => s.put r (.map es c)
          | false => none
        | none => none
      | some _, some none => forceS (es ++ [{ key := k, val := v, born := c }]) fun es => forceN (c + 1) fun c => s.put r (.map es c)
      | _, _ => none
    | _ => none
  | _, _, _ => none

/-- what an operation does -/
inductive AR where
  | val (v : Value) (s : HS)
  | enter (f : FuncId) (args : List Value)

def someV (s : HS) : Option Value → Option AR
  | some v => some (.val v s)
  | none => none
def pairV : Option (Value × HS) → Option AR
  | some (v, s) => some (.val v s)
  | none => none
def unitV : Option HS → Option AR
  | some s => some (.val undef s)
  | none => none

def callA (P : Program) (g : FuncId) (args : List Value) : Option AR := match P.funcs[g]? with
  | some fn => match fn.name == "runtime.NumGoroutine", fn.body with
    | false, some _ => some (.enter g args)
    | _, _ => none
  | none => none

def runOp (P : Program) (G : Gl) (f : AF) (s : HS) (o : Oper) : Option AR := match allOk G o.op with
  | false => none
  | true => match heapless P f o with
    | some v => some (.val v s)
    | none => match o.op with
      | .load t x => someV s (loadA P s t (ev f x))
      | .store t x v => unitV (storeA P s t (ev f x) (ev f v))
      | .alloc t => match zeroT P t with
        | some z => pairV (newVarA s t z)
        | none => none
      | .slice t x lo hi mx => someV s (sliceA P s t (ev f x) (lo.map (ev f)) (hi.map (ev f)) (mx.map (ev f)))
      | .box t x => pairV (newVarA s t (ev f x))
      | .buildSlice t n parts => pairV (buildSliceA P s t n (parts.map fun (i, x) => (i, ev f x)))
      | .makeSlice t l c => pairV (makeSliceA P s t (ev f l) (ev f c))
      | .convert src dst x => pairV (convA P s src dst (ev f x))
      | .makeMap _ none => match s.new (.map [] 0) with
        | some s' => some (.val (.map (some s.next)) s')
        | none => none
      | .lookup t m k ok => someV s (lookupA P s t (ev f m) (ev f k) ok)
      | .mapUpdate t m k v => unitV (mapUpdateA P s t (ev f m) (ev f k) (ev f v))
      | .call c => match c.callee, c.args.toList.map (ev f), c.argTypes.toList with
        | .builtin .append, [x, y], [t, u] => pairV (appendA P s t u x y)
        | .builtin .copy, [x, y], t :: _ => pairV (copyA P s t x y)
        | .value g, args, _ => match ev f g with
          | .func (.func g) first captured => callA P g (first.toList ++ args ++ captured.toList)
          | _ => none
        | _, _, _ => none
      | _ => none

abbrev Rec := Code → AF → HS → Option (AX × AF × HS)

def loadsTmps : List Value → Nat → Tr Value → Tr Value
  | [], _, t => t
  | v :: r, i, t => loadsTmps r (i + 1) (t.set deep i (some v))
def enterF (fn : Func) (args : List Value) : AF := ⟨loadsTmps args 0 .leaf, args.length + (fn.ntmps - args.length), []⟩
def loadsK {β : Type} : List Value → Nat → Tr Value → (Tr Value → β) → β
  | [], _, t, k => k t
  | v :: r, i, t, k => forceV v fun v => setK deep t i (some v) fun t => loadsK r (i + 1) t k
theorem loadsK_eq {β : Type} : ∀ (l : List Value) (i : Nat) (t : Tr Value) (k : Tr Value → β), loadsK l i t k = k (loadsTmps l i t)
  | [], _, _, _ => rfl
  | v :: r, i, t, k => by
    simp only [loadsK, loadsTmps, forceV_eq, setK_eq]
    exact loadsK_eq r (i + 1) _ k
def enterK {β : Type} (fn : Func) (args : List Value) (k : AF → β) : β := loadsK args 0 .leaf fun t => forceN (args.length + (fn.ntmps - args.length)) fun n => k ⟨t, n, []⟩
theorem enterK_eq {β : Type} (fn : Func) (args : List Value) (k : AF → β) : enterK fn args k = k (enterF fn args) := by
  unfold enterK enterF
  rw [loadsK_eq, forceN_eq]
def resultA (P : Program) (f : AF) (s : HS) : ResultVar → Option Value
  | .tmp t => some (f.get t)
  | .cell a t => loadA P s t (f.get a)
def resultsA (P : Program) (f : AF) (s : HS) (l : List ResultVar) : Option Value := match l.mapM (resultA P f s) with
  | some [v] => some v
  | some vs => some (.tuple vs.toArray)
  | none => none
/-- a deferred function that is called where nothing panics: it does not look at the heap -/
def isRecover : Op → Bool
  | .call ⟨.builtin .recover, _, _⟩ => true
  | _ => false
def opD (P : Program) (f : AF) (o : Oper) : Option Value := match isRecover o.op with
  | true => some .nilIface
  | false => heapless P f o
def wantedA (ops : Array Oper) (f : AF) (o : Oper) : Bool := match o.guard with
  | none => true
  | some (j, want) => match (ops[j]?).bind (·.dst) with
    | some t => match f.get t with
      | .bool b => b == want
      | _ => false
    | none => false
def runOpsD (P : Program) (G : Gl) (ops : Array Oper) : List Oper → AF → Option AF
  | [], f => some f
  | o :: r, f => match wantedA ops f o with
    | false => match f.putO o.dst undef with
      | some f' => runOpsD P G ops r f'
      | none => none
    | true => match o.op.operands.all (okOp G) with
      | false => none
      | true => match opD P f o with
        | none => none
        | some v => match f.putO o.dst v with
          | some f' => runOpsD P G ops r f'
          | none => none
def runD (P : Program) (G : Gl) : Nat → Code → AF → Option (AX × AF)
  | 0, _, _ => none
  | n + 1, c, f => match c with
    | .skip => some (.normal, f)
    | .label _ => some (.normal, f)
    | .ret => some (.ret, f)
    | .region _ ops false => match runOpsD P G ops ops.toList f with
      | some f' => some (.normal, f')
      | none => none
    | .seq a b => match runD P G n a f with
      | some (.normal, f') => runD P G n b f'
      | some (.ret, f') => some (.ret, f')
      | _ => none
    | .cond c a b => match okOp G c, ev f c with
      | true, .bool true => runD P G n a f
      | true, .bool false => runD P G n b f
      | _, _ => none
    | _ => none
/-- the deferred calls of a function that returns -/
def leaveA (P : Program) (G : Gl) : List (FuncId × List Value) → Bool
  | [] => true
  | (g, args) :: r => match P.funcs[g]? with
    | some fn => match fn.name == "runtime.NumGoroutine", fn.body, fn.results.toList with
      | false, some c, [] => match Nat.ble args.length lim, runD P G 100 c (enterF fn args) with
        | true, some (_, f) => match f.defers with
          | [] => leaveA P G r
          | _ => false
        | _, _ => false
      | _, _, _ => false
    | none => false
def intEq : Int → Int → Bool
  | .ofNat a, .ofNat b => Nat.beq a b
  | .negSucc a, .negSucc b => Nat.beq a b
  | _, _ => false
def addrEq : Option Addr → Option Addr → Bool
  | none, none => true
  | some ⟨b, o, none⟩, some ⟨c, p, none⟩ => Nat.beq b c && Nat.beq o p
  | _, _ => false
def nameEq : Option Nat → Option Nat → Bool
  | none, none => true
  | some b, some c => Nat.beq b c
  | _, _ => false
def boolEq : Bool → Bool → Bool
  | true, true => true
  | false, false => true
  | _, _ => false
/-- are two values surely the same? -/
def veq0 (x y : Value) : Bool := match x with
  | .int k i => match y with
    | .int l j => Nat.beq k.ctorIdx l.ctorIdx && intEq i j
    | _ => false
  | .bool b => match y with
    | .bool c => boolEq b c
    | _ => false
  | .string a => match y with
    | .string b => bytesBeq a.data.toList b.data.toList
    | _ => false
  | .pointer a => match y with
    | .pointer b => addrEq a b
    | _ => false
  | .slice a l c => match y with
    | .slice b m d => addrEq a b && (Nat.beq l m && Nat.beq c d)
    | _ => false
  | .map r => match y with
    | .map q => nameEq r q
    | _ => false
  | .nilIface => match y with
    | .nilIface => true
    | _ => false
  | .nilFunc => match y with
    | .nilFunc => true
    | _ => false
  | _ => false
def all2 {α : Type} (p : α → α → Bool) : List α → List α → Bool
  | [], [] => true
  | x :: r, y :: q => p x y && all2 p r q
  | _, _ => false
def nest (p : Value → Value → Bool) (x y : Value) : Bool := match x with
  | .agg a => match y with
    | .agg b => all2 p a.toList b.toList
    | _ => false
  | .tuple a => match y with
    | .tuple b => all2 p a.toList b.toList
    | _ => false
  | .iface t v => match y with
    | .iface u w => Nat.beq t u && p v w
    | _ => false
  | x => veq0 x y
def veq (x y : Value) : Bool := nest (nest veq0) x y
def entEq (x y : MapEntry) : Bool := veq x.key y.key && (veq x.val y.val && Nat.beq x.born y.born)
def oeq (x y : AObj) : Bool := match x with
  | .row cs e z => match y with
    | .row ds f u => all2 veq cs ds && (Nat.beq e f && Nat.beq z u)
    | _ => false
  | .map es c => match y with
    | .map fs d => all2 entEq es fs && Nat.beq c d
    | _ => false
def setAll : List (Nat × AObj) → Tr AObj → Tr AObj
  | [], t => t
  | (b, o) :: r, t => setK deep (setAll r t) b (some o) fun t => t
def allIn (s : HS) : List (Nat × AObj) → Bool
  | [] => true
  | (b, o) :: r => match s.at b with
    | some o' => match oeq o' o with
      | true => allIn s r
      | false => false
    | none => false
def applyK : List Known → Nat → List Value → HS → Option (Value × HS)
  | [], _, _, _ => none
  | x :: r, g, args, s => match Nat.beq g x.fn && (Nat.ble s.next x.n0 && (all2 veq args x.args && (allIn s x.inH && (Nat.ble x.n1 lim && x.outH.all fun p => Nat.ble x.n0 p.1 && Nat.blt p.1 x.n1)))) with
    | true => some (x.v, ⟨setAll x.outH s.heap, x.n1, s.log⟩)
    | false => applyK r g args s
def callN (P : Program) (G : Gl) (rec : Rec) (g : FuncId) (args : List Value) (s : HS) : Option (Value × HS) := match P.funcs[g]? with
  | some fn => match fn.body with
    | some c => match Nat.ble args.length lim, enterK fn args (fun f => rec c f s) with
      | true, some (.normal, f, s') => match leaveA P G f.defers, resultsA P f s' fn.results.toList with
        | true, some v => some (v, s')
        | _, _ => none
      | true, some (.ret, f, s') => match leaveA P G f.defers, resultsA P f s' fn.results.toList with
        | true, some v => some (v, s')
        | _, _ => none
      | _, _ => none
    | none => none
  | none => none

def callF (P : Program) (G : Gl) (rec : Rec) (g : FuncId) (args : List Value) (s : HS) : Option (Value × HS) := match applyK G.known g args s with
  | some r => some r
  | none => callN P G rec g args s

def stepOp (P : Program) (G : Gl) (rec : Rec) (f : AF) (s : HS) (o : Oper) : Option (Value × HS) := match runOp P G f s o with
  | some (.val v s') => some (v, s')
  | some (.enter g args) => callF P G rec g args s
  | none => none
def deferA (f : AF) (o : Oper) : Option AF := match o.op with
  | .defer ⟨.value g, args, _⟩ => match ev f g with
    | .func (.func g) first captured => some ⟨f.tmps, f.size, (g, first.toList ++ args.toList.map (ev f) ++ captured.toList) :: f.defers⟩
    | _ => none
  | _ => none
def runOps (P : Program) (G : Gl) (rec : Rec) (ops : Array Oper) : List Oper → AF → HS → Option (AF × HS)
  | [], f, s => some (f, s)
  | o :: r, f, s => match wantedA ops f o with
    | false => match f.putO o.dst undef with
      | some f' => runOps P G rec ops r f' s
      | none => none
    | true => match deferA f o with
      | some f' => match o.op.operands.all (okOp G), f'.putO o.dst undef with
        | true, some f'' => runOps P G rec ops r f'' s
        | _, _ => none
      | none => match stepOp P G rec f s o with
        | some (v, s') => match f.putO o.dst v with
          | some f' => runOps P G rec ops r f' s'
          | none => none
        | none => none
/-- an operation of a region that draws its order and that has looked at the heap: its number, and the names that it made or touched -/
structure DRec where
  k : Nat
  nms : List Nat
structure DS where
  f : AF
  s : HS
  done : List DRec

def ancAt (anc : List Nat) (k : Nat) : Nat := anc.getD k 0
def isAnc (anc : List Nat) (j k : Nat) : Bool := (ancAt anc k).testBit j
def ancOk1 (anc : List Nat) (k : Nat) (o : Oper) : Bool :=
  o.after.toList.all (fun e => !Region.binds .any e || Nat.blt e.on k) &&
  (List.range k).all fun j => !isAnc anc j k || o.after.toList.any fun e => Region.binds .any e && (Nat.beq e.on j || (isAnc anc j e.on && Nat.blt j e.on))
def apartOk1 (ops : Array Oper) (anc : List Nat) (k : Nat) (o : Oper) : Bool :=
  (List.range k).all fun j => match ops[j]? with
    | some x => (match x.dst with | some d => o.dst != some d | none => true) && (isAnc anc j k || Oper.apart ops x o)
    | none => false
def statOk (ops : Array Oper) (anc : List Nat) : List Oper → Nat → Bool
  | [], _ => true
  | o :: r, k => ancOk1 anc k o && (apartOk1 ops anc k o && statOk ops anc r (k + 1))

def eraseAll : List Nat → Tr AObj → Tr AObj
  | [], t => t
  | b :: r, t => setK deep t b none fun t => eraseAll r t
def overlay (src : Tr AObj) : List Nat → Tr AObj → Option (Tr AObj)
  | [], t => some t
  | b :: r, t => match Nat.ble b lim with
    | true => match src.get b with
      | some o => setK deep t b (some o) fun t => overlay src r t
      | none => setK deep t b none fun t => overlay src r t
    | false => none
def touched (lo hi : Nat) (l : List Nat) : List Nat := l.filter fun b => !(Nat.ble lo b && Nat.blt b hi)
def free : List DRec → List Nat → Bool
  | [], _ => true
  | _, [] => true
  | _, _ => false
def joinA (s t : HS) (inc : List DRec) (rem tch : List Nat) : Option (HS × List Nat) := match Nat.ble t.next lim && tch.all (fun b => Nat.blt b s.next && !rem.contains b), free inc tch, rem with
  | true, true, [] => some (⟨t.heap, t.next, t.log ++ s.log⟩, List.range' s.next (t.next - s.next) ++ tch)
  | true, true, _ => match overlay t.heap (List.range' s.next (t.next - s.next) ++ tch) s.heap with
    | some h => some (⟨h, t.next, t.log ++ s.log⟩, List.range' s.next (t.next - s.next) ++ tch)
    | none => none
  | _, _, _ => none
def heapStep (P : Program) (G : Gl) (rec : Rec) (f : AF) (s : HS) (o : Oper) (inc : List DRec) (rem : List Nat) : Option (Value × HS × List Nat) := match stepOp P G rec f ⟨eraseAll rem s.heap, s.next, []⟩ o with
  | some (v, t) => match joinA s t inc rem (touched s.next t.next t.log) with
    | some (s', nms) => some (v, s', nms)
    | none => none
  | none => none
def drawn1 (P : Program) (G : Gl) (rec : Rec) (ops : Array Oper) (anc : List Nat) (k : Nat) (o : Oper) (d : DS) : Option DS := match wantedA ops d.f o with
  | false => match d.f.putO o.dst undef with
    | some f' => some ⟨f', d.s, d.done⟩
    | none => none
  | true => match allOk G o.op with
    | false => none
    | true => match heapless P d.f o with
      | some v => match d.f.putO o.dst v with
        | some f' => some ⟨f', d.s, d.done⟩
        | none => none
      | none => match heapStep P G rec d.f d.s o (d.done.filter fun x => !isAnc anc x.k k) ((d.done.filter fun x => !isAnc anc x.k k).flatMap (·.nms)) with
        | some (v, s', nms) => match d.f.putO o.dst v with
          | some f' => some ⟨f', s', ⟨k, nms⟩ :: d.done⟩
          | none => none
        | none => none
def drawnGo (P : Program) (G : Gl) (rec : Rec) (ops : Array Oper) (anc : List Nat) : List Oper → Nat → DS → Option DS
  | [], _, d => some d
  | o :: r, k, d => match drawn1 P G rec ops anc k o d with
    | some d' => drawnGo P G rec ops anc r (k + 1) d'
    | none => none
def runDrawn (P : Program) (G : Gl) (rec : Rec) (ops : Array Oper) (anc : List Nat) (f : AF) (s : HS) : Option (AF × HS) := match statOk ops anc ops.toList 0 with
  | false => none
  | true => match drawnGo P G rec ops anc ops.toList 0 ⟨f, s, []⟩ with
    | some d => some (d.f, d.s)
    | none => none
/-- rounds of a loop -/
def iter (rec : Rec) (c : Code) : Nat → AF → HS → Option (AX × AF × HS)
  | 0, _, _ => none
  | n + 1, f, s => match rec c f s with
    | some (.normal, f', s') => iter rec c n f' s'
    | some (.exit i, f', s') => some (.exit i, f', s')
    | some (.ret, f', s') => some (.ret, f', s')
    | none => none
def step (P : Program) (G : Gl) (n : Nat) (rec : Rec) : Rec := fun c f s => match c with
  | .skip => some (.normal, f, s)
  | .label _ => some (.normal, f, s)
  | .region _ ops false => match runOps P G rec ops ops.toList f s with
    | some (f', s') => some (.normal, f', s')
    | none => none
  | .region _ ops true => match runDrawn P G rec ops (Region.before ops).toList f s with
    | some (f', s') => some (.normal, f', s')
    | none => none
  | .seq a b => match rec a f s with
    | some (.normal, f', s') => rec b f' s'
    | some (.exit i, f', s') => some (.exit i, f', s')
    | some (.ret, f', s') => some (.ret, f', s')
    | none => none
  | .cond c a b => match okOp G c, ev f c with
    | true, .bool true => rec a f s
    | true, .bool false => rec b f s
    | _, _ => none
  | .block id c => match rec c f s with
    | some (.exit i, f', s') => match Nat.beq i id with
      | true => some (.normal, f', s')
      | false => some (.exit i, f', s')
    | some (.normal, f', s') => some (.normal, f', s')
    | some (.ret, f', s') => some (.ret, f', s')
    | none => none
  | .loop c => iter rec c n f s
  | .exit id => some (.exit id, f, s)
  | .ret => some (.ret, f, s)
  | _ => none
def run (P : Program) (G : Gl) (n : Nat) : Rec := @Nat.rec (fun _ => Rec) (fun _ _ _ => none) (fun n ih => step P G n ih) n
end Go.Proofs.YtcnclcfglfgjlaaGreatDoor.Cx
