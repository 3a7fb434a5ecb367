/- A machine that runs a program's code on written inputs by computation alone, part 3: the machine itself. No condition. -/
import Derived.Test.YtjefcpjciogcjaaGreatDoorG32
import GoSem.Dispatch
import Derived.Orders
namespace Go.Proofs.YtjefcpjciogcjaaGreatDoor
set_option maxRecDepth 100000
set_option linter.unusedVariables false
namespace Cx
open Go
def Ds (P:Program) {α:Type}:Sem α->Option α
 | .pure a=>some a
 | .program k=>Ds P (k P)
 | .mark _ k=>Ds P k
 | _=>none
structure HS where
 heap:Tr AObj
 next:Nat
 log:List Nat
structure AF where
 tmps:Tr Value
 size:Nat
 defers:List (FuncId×List Value)
inductive AX where
 | normal
 | exit (id:Nat)
 | ret
def lim:Nat:=2^30
def HS.at (s:HS) (b:Nat):Option AObj:=s.heap.get b
def forceO {β:Type} (o:AObj) (k:AObj->β):β:=match o with
 | .row cs e z=>forceVs cs fun cs=>k (.row cs e z)
 | o=>k o
theorem forceO_eq {β:Type} (o:AObj) (k:AObj->β):forceO o k=k o:=by
 unfold forceO;split
 · exact We _ _
 · rfl
def HS.new (s:HS) (o:AObj):Option HS:=match s with
 |⟨h,nx,lg⟩=>match Nat.ble nx lim with
  | true=>forceO o fun o=>setK deep h nx (some o) fun h=>Dp (nx+1) fun nx=>some ⟨h,nx,lg⟩
  | false=>none
def HS.put (s:HS) (b:Nat) (o:AObj):Option HS:=match s with
 |⟨h,nx,lg⟩=>match Nat.ble b lim with
  | true=>setK deep h b (some o) fun h=>some ⟨h,nx,b::lg⟩
  | false=>none
def HS.take (s:HS) (b:Nat) (o:AObj):Option HS:=match s with
 |⟨h,nx,lg⟩=>match Nat.ble b lim,Nat.ble nx lim with
  | true,true=>setK deep h b none fun h=>setK deep h nx (some o) fun h=>Dp (nx+1) fun nx=>some ⟨h,nx,b::lg⟩
  | _,_=>none
def HS.drop (s:HS) (b:Nat):Option HS:=match s with
 |⟨h,nx,lg⟩=>match Nat.ble b lim with
  | true=>setK deep h b none fun h=>some ⟨h,nx,b::lg⟩
  | false=>none
theorem HS.drop_old (s:HS) (b:Nat):s.drop b=match Nat.ble b lim with
  | true=>some ⟨s.heap.set deep b none,s.next,b::s.log⟩
  | false=>none:=by
 obtain⟨h,c,a⟩:=s;simp only[HS.drop,Gx]
theorem HS.new_old (s:HS) (o:AObj):s.new o=match Nat.ble s.next lim with
  | true=>some ⟨s.heap.set deep s.next (some o),s.next+1,s.log⟩
  | false=>none:=by
 obtain⟨h,b,a⟩:=s;simp only[HS.new,forceO_eq,Gx,Dx]
theorem HS.put_old (s:HS) (b:Nat) (o:AObj):s.put b o=match Nat.ble b lim with
  | true=>some ⟨s.heap.set deep b (some o),s.next,b::s.log⟩
  | false=>none:=by
 obtain⟨h,c,a⟩:=s;simp only[HS.put,Gx]
theorem HS.take_old (s:HS) (b:Nat) (o:AObj):s.take b o=match Nat.ble b lim,Nat.ble s.next lim with
  | true,true=>some ⟨(s.heap.set deep b none).set deep s.next (some o),s.next+1,b::s.log⟩
  | _,_=>none:=by
 obtain⟨h,c,a⟩:=s;simp only[HS.take,Gx,Dx]
def AF.get (f:AF) (t:Nat):Value:=(f.tmps.get t).getD undef
def AF.put (f:AF) (t:Nat) (v:Value):Option AF:=match f with
 |⟨tm,sz,df⟩=>match Nat.blt t sz,Nat.ble t lim with
  | true,true=>forceV v fun v=>setK deep tm t (some v) fun tm=>some ⟨tm,sz,df⟩
  | _,_=>none
theorem AF.put_old (f:AF) (t:Nat) (v:Value):f.put t v=match Nat.blt t f.size,Nat.ble t lim with
  | true,true=>some ⟨f.tmps.set deep t (some v),f.size,f.defers⟩
  | _,_=>none:=by
 obtain⟨b,sz,a⟩:=f;simp only[AF.put,Zn,Gx]
def AF.putO (f:AF) (t:Option Nat) (v:Value):Option AF:=match t with
 | none=>some f
 | some t=>f.put t v
def ev (f:AF):Operand->Value
 | .tmp t=>f.get t
 | .const v=>v
 | .global g=>.pointer (some ⟨g,0,none⟩)
 | .func f=>.func (.func f) #[] #[]
structure Known where
 fn:Nat
 args:List Value
 inH:List (Nat×AObj)
 n0:Nat
 v:Value
 outH:List (Nat×AObj)
 n1:Nat
structure Gl where
 vars:List Nat
 known:List Known
def okOp (G:Gl):Operand->Bool
 | .tmp _=>true
 | .const v=>bare v
 | .global g=>G.vars.contains g
 | .func _=>true
def allL (G:Gl):List Operand->Bool
 | []=>true
 |x::r=>match okOp G x with
  | true=>allL G r
  | false=>false
def okO (G:Gl):Option Operand->Bool
 | none=>true
 | some x=>okOp G x
def allP (G:Gl):List (Nat×Operand)->Bool
 | []=>true
 |x::r=>match okOp G x.2 with
  | true=>allP G r
  | false=>false
def Ux (G:Gl) (op:Op):Bool:=match op with
 | .move x=>okOp G x
 | .assign x=>okOp G x
 | .load _ x=>okOp G x
 | .store _ x y=>okOp G x&&okOp G y
 | .binOp _ _ x y _=>okOp G x&&okOp G y
 | .fieldAddr _ x _=>okOp G x
 | .indexAddr _ x y=>okOp G x&&okOp G y
 | .index _ x y=>okOp G x&&okOp G y
 | .field _ x _=>okOp G x
 | .extract x _=>okOp G x
 | .pick c x y=>okOp G c&&(okOp G x&&okOp G y)
 | .nilCheck x=>okOp G x
 | .unOp _ _ x=>okOp G x
 | .convert _ _ x=>okOp G x
 | .makeInterface _ x=>okOp G x
 | .typeAssert x _ _ _=>okOp G x
 | .box _ x=>okOp G x
 | .alloc _=>true
 | .lookup _ x y _=>okOp G x&&okOp G y
 | .slice _ x l h m=>okOp G x&&(okO G l&&(okO G h&&okO G m))
 | .build _ ps=>allP G ps.toList
 | .buildSlice _ _ ps=>allP G ps.toList
 | .call c=>allL G (match c.callee with | .value f=>f::c.args.toList | .invoke r _=>r::c.args.toList | .builtin _=>c.args.toList)
 | op=>op.operands.all (okOp G)
theorem allP_eq (G:Gl):∀l:List (Nat×Operand),allP G l=(l.map (·.2)).all (okOp G)
 | []=>rfl
 |x::r=>by
  simp only[allP,List.map_cons,List.all_cons,allP_eq G r];cases okOp G x.2 <;> rfl
theorem allL_eq (G:Gl):∀l:List Operand,allL G l=l.all (okOp G)
 | []=>rfl
 |x::r=>by
  simp only[allL,List.all_cons,allL_eq G r];cases okOp G x <;> rfl
theorem allOk_eq (G:Gl) (op:Op):Ux G op=op.operands.all (okOp G):=by
 cases op <;> first | rfl | (simp [Ux,Op.operands];done) | (simp [Ux,Op.operands,allP_eq];done) | skip
 ·rename_i t x l h m
  cases l <;> cases h <;> cases m <;> simp[Ux,Op.operands,okO,Bool.and_assoc]
 ·rename_i c
  obtain⟨a,args,b⟩:=c;cases a <;> simp[Ux,Op.operands,Call.operands,allL_eq]
def Fa (P:Program) (t:TypeId):Option Nat:=match P.info? t with
 | some i=>some i.size
 | none=>none
def aggT (P:Program) (t:TypeId):Option Bool:=match P.underlying t with
 | some (.struct _)=>some true
 | some (.array _ _)=>some true
 | some _=>some false
 | none=>none
def partA (P:Program) (t:TypeId) (cs:Array Value) (off:Nat):Option Value:=match aggT P t with
 |some true=>match Fa P t with
  |some n=>match Nat.ble (off+n) cs.size with
   | true=>some (.agg (cs.extract off (off+n)))
   | false=>none
  | none=>none
 | some false=>cs[off]?
 | none=>none
def Nl (i:Int) (n:Nat):Option Nat:=match i with
 | .ofNat m=>match Nat.blt m n with
   | true=>some m
   | false=>none
 | .negSucc _=>none
def upTo (i:Int) (n:Nat):Option Nat:=match i with
 | .ofNat m=>match Nat.ble m n with
   | true=>some m
   | false=>none
 | .negSucc _=>none
def Oy (P:Program) (t:TypeId) (x:Value) (i:Nat):Option Value:=match P.underlying t,x with
 |some (.struct fs),.pointer (some ⟨b,o,none⟩)=>match fs[i]? with
  |some fd=>match Fa P fd.type with
   | some (_+1)=>some (.pointer (some ⟨b,o+fd.offset,none⟩))
   | _=>none
  | none=>none
 | _,_=>none
def Oz (P:Program) (t:TypeId) (x ix:Value):Option Value:=match P.underlying t,x,ix with
 |some (.slice e),.slice (some ⟨b,o,none⟩) n _,.int _ i=>match Nl i n,Fa P e with
  | some j,some z=>some (.pointer (some ⟨b,o+j*z,none⟩))
  | _,_=>none
 |some (.array n e),.pointer (some ⟨b,o,none⟩),.int _ i=>match Nl i n,Fa P e with
  | some j,some z=>some (.pointer (some ⟨b,o+j*z,none⟩))
  | _,_=>none
 | _,_,_=>none
def fieldA (P:Program) (t:TypeId) (x:Value) (i:Nat):Option Value:=match P.underlying t,x with
 |some (.struct fs),.agg cs=>match fs[i]? with
  | some fd=>partA P fd.type cs fd.offset
  | none=>none
 | _,_=>none
def indexA (P:Program) (t:TypeId) (x ix:Value):Option Value:=match P.underlying t,x,ix with
 |some (.array n e),.agg cs,.int _ i=>match Nl i n,Fa P e with
  | some j,some z=>partA P e cs (j*z)
  | _,_=>none
 | _,_,_=>none
def Gn (x:Option Value) (d n:Nat):Option Nat:=match x with
 | none=>some d
 | some (.int _ i)=>upTo i n
 | some _=>none
def topOf (c n:Nat):Nat:=match Nat.beq c unk with
 | true=>n
 | false=>c
def unkO:Option Addr:=some ⟨0,0,some 0⟩
def sliceA (P:Program) (s:HS) (t:TypeId) (x:Value) (lo hi mx:Option Value):Option Value:=match P.underlying t,x with
 |some (.slice e),.slice (some ⟨b,o,none⟩) n c=>match s.heap.get b with
  |some (.row _ _ z0)=>match Fa P e with
   |some z=>match Nat.beq z0 z||Nat.beq z0 0 with
    |true=>match mx with
     |none=>match Gn hi n (topOf c n) with
      |some h=>match Gn lo 0 h with
       |some l=>match Nat.beq c unk with
        |true=>match Nat.blt l n||Nat.beq l 0 with
         | true=>some (.slice (some ⟨b,o+l*z,none⟩) (h-l) unk)
         | false=>some (.slice unkO 0 unk)
        |false=>match Nat.beq c l with
         | true=>some (.slice (some ⟨b,o,none⟩) (h-l) 0)
         | false=>some (.slice (some ⟨b,o+l*z,none⟩) (h-l) (c-l))
       | none=>none
      | none=>none
     |some (.int _ m)=>match upTo m (topOf c n),hi with
      |some m,some h=>match Gn (some h) 0 m with
       |some h=>match Gn lo 0 h with
        |some l=>match Nat.beq m l with
         | true=>some (.slice (some ⟨b,o,none⟩) (h-l) 0)
         | false=>some (.slice (some ⟨b,o+l*z,none⟩) (h-l) (m-l))
        | none=>none
       | none=>none
      | _,_=>none
     | _=>none
    | false=>none
   | none=>none
  | _=>none
 |some (.slice e),.slice none 0 0=>match Fa P e,mx with
  |some _,none=>match Gn hi 0 0,Gn lo 0 0 with
   | some _,some _=>some (.slice none 0 0)
   | _,_=>none
  | _,_=>none
 |some (.array n e),.pointer (some ⟨b,o,none⟩)=>match s.heap.get b,mx,Fa P e,Nat.ble n lim with
  |some (.row _ _ 0),none,some z,true=>match Gn hi n n with
   |some h=>match Gn lo 0 h with
    |some l=>match Nat.beq n l with
     | true=>some (.slice (some ⟨b,o,none⟩) (h-l) 0)
     | false=>some (.slice (some ⟨b,o+l*z,none⟩) (h-l) (n-l))
    | none=>none
   | none=>none
  | _,_,_,_=>none
 | _,_=>none
def Vf (P:Program) (t:TypeId) (parts:Array (Nat×Value)):Option Value:=match P.info? t with
 |some i=>match i.zero with
  |some z=>match bare z with
   |true=>match P.underlying t with
    |some (.struct fs)=>match fs.toList.mapM (fun f=>(Fa P f.type).map fun n=>(f.offset,n)) with
     |some pl=>match Instr.fill (pl[·]?) z.cells parts.toList with
      | some cs=>some (.agg cs)
      | none=>none
     | none=>none
    |some (.array _ e)=>match Fa P e with
     |some n=>match Instr.fill (fun i=>some (i*n,n)) z.cells parts.toList with
      | some cs=>some (.agg cs)
      | none=>none
     | none=>none
    | _=>none
   | false=>none
  | none=>none
 | none=>none
def fillL (pl:List (Nat×Nat)):List (Nat×Value)->List Value->Option (List Value)
 | [],cs=>some cs
 |(i,v)::r,cs=>match nth pl i with
  |some (off,size)=>match lenIs size v.cells.toList&&leLen (off+size) cs with
   | true=>fillL pl r (Qs v.cells.toList off cs)
   | false=>none
  | none=>none
def buildF (P:Program) (t:TypeId) (ps:List (Nat×Value)):Option Value:=match P.underlying t with
 |some (.struct fs)=>match P.info? t with
  |some i=>match i.zero with
   |some z=>match bare z with
    |true=>match fs.toList.mapM (fun f=>(Fa P f.type).map fun n=>(f.offset,n)) with
     |some pl=>match fillL pl ps z.cells.toList with
      | some cs=>some (.agg ⟨cs⟩)
      | none=>none
     | none=>none
    | false=>none
   | none=>none
  | none=>none
 | _=>Vf P t ps.toArray
def Cp (s:ByteArray):List UInt8:=s.data.toList
def Gp:List UInt8->List UInt8->Bool
 | [],[]=>true
 |a::x,b::y=>match Nat.beq a.toNat b.toNat with
  | true=>Gp x y
  | false=>false
 | _,_=>false
def bytesLess:List UInt8->List UInt8->Bool
 | _,[]=>false
 | [],_::_=>true
 |a::x,b::y=>match Nat.blt a.toNat b.toNat with
  | true=>true
  |false=>match Nat.beq a.toNat b.toNat with
   | true=>bytesLess x y
   | false=>false
def Ut (op:BinOp) (x y:ByteArray):Option Value:=match op with
 | .add=>match Nat.ble (x.size+y.size) lim with
   | true=>some (.string ⟨(x.data.toList++y.data.toList).toArray⟩)
   | false=>none
 | .eql=>some (.bool (Gp (Cp x) (Cp y)))
 | .neq=>some (.bool (!Gp (Cp x) (Cp y)))
 | .lss=>some (.bool (bytesLess (Cp x) (Cp y)))
 | .leq=>some (.bool (bytesLess (Cp x) (Cp y)||Gp (Cp x) (Cp y)))
 | .gtr=>some (.bool (!(bytesLess (Cp x) (Cp y)||Gp (Cp x) (Cp y))))
 | .geq=>some (.bool (!bytesLess (Cp x) (Cp y)))
 | _=>none
def Ss (d:TypeDesc) (x y:Value):Option Bool:=match d,x,y with
 | .pointer _,.pointer (some _),.pointer none=>some false
 | .pointer _,.pointer none,.pointer (some _)=>some false
 | .slice _,.slice (some _) _ _,.slice none _ _=>some false
 | .slice _,.slice none _ _,.slice (some _) _ _=>some false
 | .map _ _,.map (some _),.map none=>some false
 | .map _ _,.map none,.map (some _)=>some false
 | .func _ _ _,.nilFunc,.func _ _ _=>some false
 | .func _ _ _,.func _ _ _,.nilFunc=>some false
 | .interface _,.nilIface,.iface _ _=>some false
 | .interface _,.iface _ _,.nilIface=>some false
 | _,_,_=>none
def topK:IntKind->Nat
 | .i8=>127
 | .u8=>255
 | .i16=>32767
 | .u16=>65535
 | .i32=>2147483647
 | .u32=>4294967295
 | .i64=>9223372036854775807
 | .u64=>18446744073709551615
def intK (k:IntKind) (n:Nat):Option Value:=match Nat.ble n (topK k) with
 | true=>some (.int k (.ofNat n))
 | false=>none
def natBin (op:BinOp) (k:IntKind) (a b:Nat):Option Value:=match op with
 | .add=>intK k (a+b)
 | .sub=>match Nat.ble b a with
   | true=>intK k (a-b)
   | false=>none
 | .mul=>intK k (a*b)
 | .lss=>some (.bool (Nat.blt a b))
 | .leq=>some (.bool (Nat.ble a b))
 | .gtr=>some (.bool (Nat.blt b a))
 | .geq=>some (.bool (Nat.ble b a))
 | .eql=>some (.bool (Nat.beq a b))
 | .neq=>some (.bool (!Nat.beq a b))
 | _=>none
def samePtr (P:Program) (d:TypeDesc) (u v:Value):Bool:=match d,u,v with
 | .pointer te,.pointer (some ⟨a,o,none⟩),.pointer (some ⟨b,p,none⟩)=>match P.info? te with
   | some _=>Nat.beq a b&&Nat.beq o p
   | none=>false
 | _,_,_=>false
def Ul (P:Program) (o:Oper) (op:BinOp) (t:TypeId) (f:AF) (u v:Value):Option Value:=match bare u&&bare v with
 |true=>match Ds P (execOp (ev f) o) with
  |some (.value r)=>match bare r with
   | true=>some r
   | false=>none
  | _=>none
 |false=>match P.underlying t with
  |some d=>match samePtr P d u v with
   |true=>match op with
    | .neq=>some (.bool false)
    | _=>none
   |false=>match op,Ss d u v with
    | .eql,some b=>some (.bool b)
    | .neq,some b=>some (.bool (!b))
    | _,_=>none
  | none=>none
def natPair (x y:Value):Option (IntKind×Nat×Nat):=match x with
 | .int k i=>match i with
   | .ofNat a=>match y with
     | .int k' j=>match j with
       | .ofNat b=>match Nat.beq k.ctorIdx k'.ctorIdx with
         | true=>some (k,a,b)
         | false=>none
       | _=>none
     | _=>none
   | _=>none
 | _=>none
def strPair (x y:Value):Option (ByteArray×ByteArray):=match x with
 | .string a=>match y with
   | .string b=>some (a,b)
   | _=>none
 | _=>none
def binA (P:Program) (o:Oper) (op:BinOp) (t:TypeId) (f:AF) (x y:Operand):Option Value:=match natPair (ev f x) (ev f y) with
 |some (k,a,b)=>match natBin op k a b with
  | some v=>some v
  | none=>Ul P o op t f (ev f x) (ev f y)
 |none=>match strPair (ev f x) (ev f y) with
  | some (a,b)=>Ut op a b
  | none=>Ul P o op t f (ev f x) (ev f y)
def convNat (P:Program) (src dst:TypeId) (x:Value):Option Value:=match x with
 | .int _ i=>match i with
   | .ofNat a=>match P.underlying src,P.underlying dst with
     | some _,some (.int k)=>intK k a
     | _,_=>none
   | _=>none
 | _=>none
def Rx (P:Program) (f:AF) (o:Oper):Option Value:=match o.op.operands.all fun x=>bare (ev f x) with
 |true=>match Ds P (execOp (ev f) o) with
  |some (.value r)=>match bare r with
   | true=>some r
   | false=>none
  | _=>none
 | false=>none
def Lz (P:Program) (t:TypeId):Option Value:=match P.info? t with
 |some i=>match i.zero with
  |some z=>match bare z with
   |true=>match Nat.beq z.cells.size i.size with
    | true=>some z
    | false=>none
   | false=>none
  | none=>none
 | none=>none
def assertA (P:Program) (x:Value) (asserted:TypeId) (ok:Bool):Option Value:=match x with
 | .iface t v=>match P.underlying asserted with
   |some (.interface want)=>match P.info? t with
    |some i=>match Instr.missingMethod want i.methods with
     | none=>some (match ok with | true=>.tuple #[.iface t v,.bool true] | false=>.iface t v)
     | some _=>none
    | none=>none
   |some _=>match Nat.beq t asserted with
    | true=>some (match ok with | true=>.tuple #[v,.bool true] | false=>v)
    |false=>match ok with
     |true=>match Lz P asserted with
      | some z=>some (.tuple #[z,.bool false])
      | none=>none
     | false=>none
   | none=>none
 | _=>none
def methodF (P:Program) (t:TypeId) (name:String):Option FuncId:=match P.info? t with
 |some i=>match i.methods.toList.find? (·.name==name) with
  |some m=>match m.path.toList,m.func,P.underlying t with
   | [],some (f,true),some (.pointer _)=>some f
   | [],some (_,false),some (.pointer _)=>none
   | [],some (f,false),some _=>some f
   | _,_,_=>none
  | none=>none
 | none=>none
def heapless (P:Program) (f:AF) (o:Oper):Option Value:=match o.op with
 | .move x | .assign x=>some (ev f x)
 | .pick c a b=>match ev f c with
   | .bool true=>some (ev f a)
   | .bool false=>some (ev f b)
   | _=>none
 | .nilCheck x=>match ev f x with
   | .pointer (some a)=>some (.pointer (some a))
   | .func (.func g) a c=>some (.func (.func g) a c)
   | .map r=>some (.map r)
   | _=>none
 | .extract x i=>match ev f x with
   | .tuple vs=>vs[i]?
   | _=>none
 | .field t x i=>fieldA P t (ev f x) i
 | .build t parts=>buildF P t (parts.toList.map fun p=>(p.1,ev f p.2))
 | .makeInterface t x=>match P.underlying t with
   | some (.interface _) | none=>none
   | some _=>some (.iface t (ev f x))
 | .makeFunc fn first captured=>some (.func fn (first.map (ev f)) (captured.map (ev f)))
 | .fieldAddr t x i=>Oy P t (ev f x) i
 | .indexAddr t x i=>Oz P t (ev f x) (ev f i)
 | .binOp op t x y _=>binA P o op t f x y
 | .slice t x lo hi mx=>match ev f x,P.underlying t with
   | .string s,some .string=>match Gn (hi.map (ev f)) s.size s.size with
     |some h=>match Gn (lo.map (ev f)) 0 h,mx with
      | some l,none=>some (.string ⟨(takeN (h-l) (Sq l s.data.toList)).toArray⟩)
      | _,_=>none
     | none=>none
   | _,_=>none
 | .index t x i=>match ev f x,ev f i,P.underlying t with
   | .string s,.int _ j,some .string=>match Nl j s.size with
     |some j=>match nth s.data.toList j with
      | some b=>some (.int .u8 b.toNat)
      | none=>none
     | none=>none
   | u,v,_=>indexA P t u v
 | .call ⟨.builtin .len,args,ts⟩=>match args.toList.map (ev f),ts.toList with
   | [.slice _ n _],[t]=>match P.underlying t with
     | some (.slice _)=>some (.int .i64 n)
     | _=>none
   | [.string s],[t]=>match P.underlying t with
     | some .string=>some (.int .i64 s.size)
     | _=>none
   | _,_=>none
 | .call ⟨.builtin .cap,args,ts⟩=>match args.toList.map (ev f),ts.toList with
   | [.slice _ _ c],[t]=>match P.underlying t,Nat.beq c unk with
     | some (.slice _),false=>some (.int .i64 c)
     | _,_=>none
   | _,_=>none
 | .convert src dst x=>match convNat P src dst (ev f x) with
   | some v=>some v
   | none=>Rx P f o
 | .typeAssert x _ asserted ok=>match assertA P (ev f x) asserted ok with
   | some v=>some v
   | none=>Rx P f o
 | .call ⟨.builtin .unsafeSliceData,args,_⟩=>match args.toList.map (ev f) with
   | [.slice (some ⟨b,o,none⟩) (_+1) _]=>some (.pointer (some ⟨b,o,none⟩))
   | _=>Rx P f o
 | .unOp .. | .call ⟨.builtin .min,_,_⟩ | .call ⟨.builtin .max,_,_⟩ | .call ⟨.builtin .unsafeString,_,_⟩=>Rx P f o
 | _=>none
def ptrA:Value->Option (Nat×Nat)
 | .pointer (some ⟨b,o,none⟩)=>some (b,o)
 | _=>none
def Kx (cs:List Value) (o n:Nat):Option (List Value):=match lenIs n (takeN n (Sq o cs)) with
 | true=>some (takeN n (Sq o cs))
 | false=>none
theorem nbeq_comm (a b:Nat):Nat.beq a b=Nat.beq b a:=by
 by_cases h:a=b
 · subst h;rfl
 · rw[Iu h,Iu (Ne.symm h)]
theorem Ky (cs:List Value) (o n:Nat):Kx cs o n=match Nat.beq ((cs.drop o).take n).length n with
 | true=>some ((cs.drop o).take n)
 | false=>none:=by
 unfold Kx;rw[Mp,Xj,Pv,nbeq_comm]
def Zx (P:Program) (s:HS) (t:TypeId) (x:Value):Option Value:=match ptrA x with
 |some (b,o)=>match s.at b with
  |some (.row cs _ _)=>match aggT P t,Fa P t with
   |some true,some n=>match Kx cs o n with
    | some xs=>some (.agg xs.toArray)
    | none=>none
   | some false,_=>nth cs o
   | _,_=>none
  | _=>none
 | none=>none
def splice (cs:List Value) (o:Nat) (vs:List Value):List Value:=cs.take o++(vs++cs.drop (o+vs.length))
theorem splice_eq (a:List Value) (o:Nat) (cs:List Value):Qs a o cs=splice cs o a:=Pi a o cs
def Hv (s:HS) (b o:Nat) (vs:List Value):Option HS:=match vs.all (·.oneCell') with
 |true=>match s.at b with
  |some (.row cs e z)=>match Nat.ble (o+vs.length) cs.length with
   | true=>spliceK vs o cs fun cs=>s.put b (.row cs e z)
   | false=>none
  | _=>none
 | false=>none
def Xi (P:Program) (s:HS) (t:TypeId) (x v:Value):Option HS:=match ptrA x,Fa P t with
 |some (b,o),some n=>match Nat.beq v.cells.size n with
  | true=>Hv s b o v.cells.toList
  | false=>none
 | _,_=>none
def Jp (s:HS) (t:TypeId) (v:Value):Option (Value×HS):=match s.new (.row v.cells.toList t 0) with
 | some s'=>some (.pointer (some ⟨s.next,0,none⟩),s')
 | none=>none
def zeros (z:Array Value) (n:Nat):Array Value:=(Array.range n).map (z[· %z.size]!)
def Cc (s:HS) (e z:Nat) (cs:List Value) (len cap:Nat):Option (Value×HS):=match s.new (.row cs e z) with
 | some s'=>some (.slice (some ⟨s.next,0,none⟩) len cap,s')
 | none=>none
def Co (P:Program) (s:HS) (t:TypeId) (len:Nat) (parts:Array (Nat×Value)):Option (Value×HS):=match P.underlying t with
 |some (.slice e)=>match Fa P e,Lz P e with
  |some (z+1),some zv=>match Nat.ble (len*(z+1)) 10000&&zv.cells.toList.all Fz with
   |true=>match len with
    |0=>match parts.toList with
     | []=>Cc s e (z+1) [] 0 0
     | _::_=>none
    |n+1=>match Instr.fill (fun i=>some (i*(z+1),z+1)) (zeros zv.cells ((n+1)*(z+1))) parts.toList with
     | some cs=>Cc s e (z+1) cs.toList (n+1) (n+1)
     | none=>none
   | false=>none
  | _,_=>none
 | _=>none
def Vg (P:Program) (s:HS) (t:TypeId) (v:Value):Option (Value×HS):=match P.underlying t with
 |some (.slice e)=>match Fa P e,Lz P e with
  |some (z+1),some zv=>match Nat.ble (1*(z+1)) 10000&&zv.cells.toList.all Fz with
   |true=>match lenIs (z+1) v.cells.toList with
    | true=>Cc s e (z+1) v.cells.toList 1 1
    | false=>none
   | false=>none
  | _,_=>none
 | _=>none
def Me (P:Program) (s:HS) (t:TypeId) (len:Nat) (ps:List (Nat×Value)):Option (Value×HS):=match len with
 |1=>match ps with
  | [(0,v)]=>match Vg P s t v with
    | some r=>some r
    | none=>Co P s t len ps.toArray
  | _=>Co P s t len ps.toArray
 | _=>Co P s t len ps.toArray
def Hh (P:Program) (s:HS) (t:TypeId) (l c:Value):Option (Value×HS):=match P.underlying t with
 |some (.slice e)=>match l,c with
  | .int _ li,.int _ ci=>match upTo li 100000,upTo ci 100000 with
    |some l,some c=>match P.info? e,Lz P e with
     |some i,some zv=>match i.size with
      |z+1=>match Nat.ble l c&&(Nat.ble i.bytes 100000&&zv.cells.toList.all Fz) with
       | true=>Cc s e (z+1) (zeros zv.cells (c*(z+1))).toList l c
       | false=>none
      | 0=>none
     | _,_=>none
    | _,_=>none
  | _,_=>none
 | _=>none
def Ju (s:HS) (z n:Nat) (x:Value):Option (List Value):=match x with
 | .slice none _ _=>match n with
   | 0=>some []
   | _=>none
 | .slice (some ⟨b,o,none⟩) _ _=>match s.at b with
   | some (.row cs _ _)=>Kx cs o (n*z)
   | _=>none
 | .slice (some ⟨_,_,some _⟩) _ _=>match n with
   | 0=>some []
   | _=>none
 | .string t=>match Nat.beq z 1 with
   | true=>some ((t.data.toList.take n).map fun b=>.int .u8 b.toNat)
   | false=>none
 | _=>none
def lenA:Value->Option Nat
 | .slice _ n _=>some n
 | .string s=>some s.size
 | _=>none
def Po (s:HS) (e z n:Nat) (new:List Value) (x:Value):Option (Value×HS):=match x with
 | .slice none 0 0=>match n with
   | 0=>some (.slice none 0 0,s)
   | n+1=>Cc s e z new (n+1) unk
 | .slice (some ⟨b,o,none⟩) l c=>match s.at b with
   |some (.row cs t1 z1)=>match Nat.beq z1 z&&(Nat.ble l 100000&&Nat.beq t1 e) with
    | false=>none
    |true=>match Nat.beq c unk with
     |true=>match n with
      | 0=>some (.slice (some ⟨b,o,none⟩) l unk,s)
      |n+1=>match leLen (o+(l+(n+1))*z) cs with
       |true=>match Hv s b (o+l*z) new with
        | some s'=>some (.slice (some ⟨b,o,none⟩) (l+(n+1)) unk,s')
        | none=>none
       |false=>match lenIs (l*z) cs&&Nat.beq o 0 with
        |true=>match apK new cs fun cs=>s.take b (.row cs e z) with
         | some s'=>some (.slice (some ⟨s.next,0,none⟩) (l+(n+1)) unk,s')
         | none=>none
        | false=>none
     |false=>match Nat.ble (l+n) c with
      |true=>match Hv s b (o+l*z) new with
       | some s'=>some (.slice (some ⟨b,o,none⟩) (l+n) c,s')
       | none=>none
      |false=>match Kx cs o (l*z) with
       | some old=>Cc s e z (old++new) (l+n) unk
       | none=>none
   | _=>none
 | _=>none
def notInt:TypeDesc->Bool
 | .string=>true
 | .slice _=>true
 | _=>false
def Pn (P:Program) (s:HS) (t u:TypeId) (x y:Value):Option (Value×HS):=match P.underlying t,P.underlying u with
 |some (.slice e),some ud=>match P.info? e,Lz P e,lenA y with
  |some i,some zv,some n=>match i.size with
   | 0=>none
   |z+1=>match Nat.ble i.bytes 100000&&(Nat.ble n 100000&&(zv.cells.toList.all Fz&&notInt ud)) with
    | false=>none
    |true=>match Ju s (z+1) n y with
     | none=>none
     |some new=>match new.all (·.oneCell') with
      | false=>none
      | true=>Po s e (z+1) n new x
  | _,_,_=>none
 | _,_=>none
def copyA (P:Program) (s:HS) (t:TypeId) (x y:Value):Option (Value×HS):=match P.underlying t,x,lenA y with
 |some (.slice e),.slice base l _,some n=>match Fa P e with
  |some z=>match Ju s z (Nat.min n l) y with
   |some new=>match base with
    |some ⟨b,o,none⟩=>match Hv s b o new with
     | some s'=>some (.int .i64 (Nat.min n l),s')
     | none=>none
    | none=>some (.int .i64 (Nat.min n l),s)
    | _=>none
   | none=>none
  | none=>none
 | _,_,_=>none
def Qu:List Value->Option (List UInt8)
 | []=>some []
 | .int .u8 n::r=>match Qu r with
   | some l=>some (UInt8.ofNat n.toNat::l)
   | none=>none
 | _=>none
def convA (P:Program) (s:HS) (src dst:TypeId) (x:Value):Option (Value×HS):=match P.underlying src,P.underlying dst,x with
 |some (.slice e),some .string,.slice a n _=>match P.underlying e with
  |some (.int .u8)=>match a with
   | none=>some (.string .empty,s)
   |some ⟨b,o,none⟩=>match s.at b with
    |some (.row cs _ _)=>match Kx cs o n with
     |some xs=>match Qu xs with
      | some l=>some (.string ⟨l.toArray⟩,s)
      | none=>none
     | none=>none
    | _=>none
   | _=>none
  | _=>none
 |some .string,some (.slice e),.string t=>match P.underlying e with
  |some (.int .u8)=>match Nat.ble t.size lim with
   | true=>Cc s e 1 (t.data.toList.map fun b=>.int .u8 b.toNat) t.size unk
   | false=>none
  | _=>none
 | _,_,_=>none
def Vr (P:Program) (s:HS) (src dst:TypeId) (x:Value):Option Value:=match P.underlying src,P.underlying dst,x with
 |some (.pointer t),some .unsafePointer,.pointer (some ⟨b,o,none⟩)=>match s.at b,P.info? t with
  |some (.row cs _ _),some j=>match Nat.beq j.size 0,Nat.blt o cs.length with
   | false,true=>some (.pointer (some ⟨b,o,none⟩))
   | _,_=>none
  | _,_=>none
 |some .unsafePointer,some (.pointer u),.pointer (some ⟨b,0,none⟩)=>match s.at b,P.info? u with
  |some (.row cs e _),some _=>match Nat.beq e u,Nat.blt 0 (P.cellsOf u),Nat.ble (P.cellsOf u) cs.length with
   | true,true,true=>some (.pointer (some ⟨b,0,none⟩))
   | _,_,_=>none
  | _,_=>none
 | _,_,_=>none
def Vj:List Value->Option (List UInt8)
 | []=>some []
 | .int .u8 i::r=>match i with
   | .ofNat n=>match Nat.blt n 256,Vj r with
     | true,some l=>some (UInt8.ofNat n::l)
     | _,_=>none
   | _=>none
 | _=>none
def Xn (P:Program) (s:HS) (pt:TypeId) (x n:Value):Option (Value×HS):=match P.underlying pt,x,n with
 |some (.pointer e),.pointer (some ⟨b,0,none⟩),.int .i64 i=>match s.at b with
  |some (.row cs t _)=>match Nat.beq e t&&Nat.beq (P.cellsOf e) 1,upTo i 1000000 with
   |true,some (m+1)=>match Kx cs 0 (m+1) with
    |some xs=>match Vj xs,s.drop b with
     | some l,some s'=>some (.string ⟨l.toArray⟩,s')
     | _,_=>none
    | none=>none
   | _,_=>none
  | _=>none
 | _,_,_=>none
def Od (P:Program) (kt:TypeId) (k:Value):List MapEntry->Nat->Option (Option (Nat×Value))
 | [],_=>some none
 |e::es,i=>match bare e.key with
  |true=>match Ds P (Op.equal kt k e.key) with
   | some true=>some (some (i,e.val))
   | some false=>Od P kt k es (i+1)
   | none=>none
  | false=>none
def lookupA (P:Program) (s:HS) (t:TypeId) (m k:Value) (ok:Bool):Option Value:=match P.underlying t,bare k with
 |some (.map kt et),true=>match m,Lz P et with
  | .map r,some z=>match (match r with | none=>some [] | some r=>match s.at r with | some (.map es _)=>some es | _=>none) with
    |some es=>match Ds P (Instr.checkKey es.isEmpty 10000 kt k),Od P kt k es 0 with
     | some _,some (some (_,v))=>some (match ok with | true=>.tuple #[v,.bool true] | false=>v)
     | some _,some none=>some (match ok with | true=>.tuple #[z,.bool false] | false=>z)
     | _,_=>none
    | none=>none
  | _,_=>none
 | _,_=>none
def It (P:Program) (s:HS) (t:TypeId) (m k v:Value):Option HS:=match P.underlying t,bare k,m with
 |some (.map kt _),true,.map (some r)=>match s.at r with
  |some (.map es c)=>match Ds P (Instr.checkKey false 10000 kt k),Od P kt k es 0 with
   |some _,some (some (i,_))=>match es[i]? with
    |some e=>match Instr.sameBits 10000 e.key k with
     | true=>Rg (es.modify i fun e=> {e with key:=k,val:=v}) fun es=>s.put r (.map es c)
     | false=>none
    | none=>none
   | some _,some none=>Rg (es++ [{key:=k,val:=v,born:=c}]) fun es=>Dp (c+1) fun c=>s.put r (.map es c)
   | _,_=>none
  | _=>none
 | _,_,_=>none
inductive AR where
 | val (v:Value) (s:HS)
 | enter (f:FuncId) (args:List Value)
def Ts (s:HS):Option Value->Option AR
 | some v=>some (.val v s)
 | none=>none
def Kr:Option (Value×HS)->Option AR
 | some (v,s)=>some (.val v s)
 | none=>none
def unitV:Option HS->Option AR
 | some s=>some (.val undef s)
 | none=>none
def Px (P:Program) (s:HS) (g:FuncId) (args:List Value):Option AR:=match args.all bare with
 |true=>match Ds P (callFunc g args.toArray) with
  |some (.value r)=>match bare r with
   | true=>some (.val r s)
   | false=>none
  | _=>none
 | false=>none
def Si (P:Program) (s:HS) (g:FuncId) (args:List Value):Option AR:=match P.funcs[g]? with
 |some fn=>match fn.name== "runtime.NumGoroutine",fn.body with
  | false,some _=>some (.enter g args)
  |false,none=>match fn.name== "internal/abi.NoEscape" &&fn.origin== "",args with
   | true,[.pointer (some ⟨b,o,none⟩)]=>some (.val (.pointer (some ⟨b,o,none⟩)) s)
   |_,_=>match fn.name== "internal/bytealg.MakeNoZero" &&fn.origin== "",args,fn.resultTypes.toList with
    |true,[.int .i64 i],[t]=>match P.underlying t,upTo i 100000 with
     | some (.slice e),some n=>Kr (Cc s e 1 [] n unk)
     | _,_=>none
    | _,_,_=>Px P s g args
  | _,_=>none
 | none=>none
def lenMapA (P:Program) (s:HS) (t:TypeId) (m:Value):Option Value:=match P.underlying t,m with
 | some (.map _ _),.map none=>some (.int .i64 0)
 |some (.map _ _),.map (some r)=>match s.at r with
  | some (.map es _)=>some (.int .i64 es.length)
  | _=>none
 | _,_=>none
def Kp:Option AR->Option AR
 | some (.enter g args)=>some (.enter g args)
 | _=>none
def Tn (P:Program) (G:Gl) (f:AF) (s:HS) (o:Oper):Option AR:=match Ux G o.op with
 | false=>none
 |true=>match heapless P f o with
  | some v=>some (.val v s)
  |none=>match o.op with
   | .load t x=>Ts s (Zx P s t (ev f x))
   | .store t x v=>unitV (Xi P s t (ev f x) (ev f v))
   | .alloc t=>match Lz P t with
     | some z=>Kr (Jp s t z)
     | none=>none
   | .slice t x lo hi mx=>Ts s (sliceA P s t (ev f x) (lo.map (ev f)) (hi.map (ev f)) (mx.map (ev f)))
   | .box t x=>Kr (Jp s t (ev f x))
   | .buildSlice t n parts=>Kr (Me P s t n (parts.toList.map fun p=>(p.1,ev f p.2)))
   | .makeSlice t l c=>Kr (Hh P s t (ev f l) (ev f c))
   | .convert src dst x=>match Vr P s src dst (ev f x) with
     | some v=>some (.val v s)
     | none=>Kr (convA P s src dst (ev f x))
   | .makeMap _ none=>match s.new (.map [] 0) with
     | some s'=>some (.val (.map (some s.next)) s')
     | none=>none
   | .lookup t m k ok=>Ts s (lookupA P s t (ev f m) (ev f k) ok)
   | .mapUpdate t m k v=>unitV (It P s t (ev f m) (ev f k) (ev f v))
   | .call c=>match c.callee,c.args.toList.map (ev f),c.argTypes.toList with
     | .builtin .append,[x,y],[t,u]=>Kr (Pn P s t u x y)
     | .builtin .copy,[x,y],t::_=>Kr (copyA P s t x y)
     | .builtin .len,[m],[t]=>Ts s (lenMapA P s t m)
     | .builtin .unsafeString,[x,n],[t,_]=>Kr (Xn P s t x n)
     | .value g,args,_=>match ev f g with
       | .func (.func g) first captured=>Si P s g (first.toList++args++captured.toList)
       | _=>none
     | .invoke r name,args,_=>match ev f r with
       | .iface t v=>match methodF P t name with
         | some g=>Kp (Si P s g (v::args))
         | none=>none
       | _=>none
     | _,_,_=>none
   | _=>none
abbrev Rec:=Code->AF->HS->Option (AX×AF×HS)
def Hg:List Value->Nat->Tr Value->Tr Value
 | [],_,t=>t
 | v::r,i,t=>Hg r (i+1) (t.set deep i (some v))
def Ml (fn:Func) (args:List Value):AF:=⟨Hg args 0 .leaf,args.length+(fn.ntmps-args.length),[]⟩
def loadsK {β:Type}:List Value->Nat->Tr Value->(Tr Value->β)->β
 | [],_,t,k=>k t
 | v::r,i,t,k=>forceV v fun v=>setK deep t i (some v) fun t=>loadsK r (i+1) t k
theorem Zz {β:Type}:∀(l:List Value) (i:Nat) (t:Tr Value) (k:Tr Value->β),loadsK l i t k=k (Hg l i t)
 | [],_,_,_=>rfl
 |v::r,i,t,k=>by
  simp only[loadsK,Hg,Zn,Gx];exact Zz r (i+1) _ k
def enterK {β:Type} (fn:Func) (args:List Value) (k:AF->β):β:=loadsK args 0 .leaf fun t=>Dp (args.length+(fn.ntmps-args.length)) fun n=>k ⟨t,n,[]⟩
theorem enterK_eq {β:Type} (fn:Func) (args:List Value) (k:AF->β):enterK fn args k=k (Ml fn args):=by
 unfold enterK Ml;rw[Zz,Dx]
def Ql (P:Program) (f:AF) (s:HS):ResultVar->Option Value
 | .tmp t=>some (f.get t)
 | .cell a t=>Zx P s t (f.get a)
def Mx (P:Program) (f:AF) (s:HS) (l:List ResultVar):Option Value:=match l.mapM (Ql P f s) with
 | some [v]=>some v
 | some vs=>some (.tuple vs.toArray)
 | none=>none
def Zu:Op->Bool
 | .call ⟨.builtin .recover,_,_⟩=>true
 | _=>false
def opD (P:Program) (f:AF) (o:Oper):Option Value:=match Zu o.op with
 | true=>some .nilIface
 | false=>heapless P f o
def Hn (ops:Array Oper) (f:AF) (o:Oper):Bool:=match o.guard with
 | none=>true
 |some (j,want)=>match (ops[j]?).bind (·.dst) with
  |some t=>match f.get t with
   | .bool b=>b==want
   | _=>false
  | none=>false
def Nq (P:Program) (G:Gl) (ops:Array Oper):List Oper->AF->Option AF
 | [],f=>some f
 |o::r,f=>match Hn ops f o with
  |false=>match f.putO o.dst undef with
   | some f'=>Nq P G ops r f'
   | none=>none
  |true=>match o.op.operands.all (okOp G) with
   | false=>none
   |true=>match opD P f o with
    | none=>none
    |some v=>match f.putO o.dst v with
     | some f'=>Nq P G ops r f'
     | none=>none
def runD (P:Program) (G:Gl):Nat->Code->AF->Option (AX×AF)
 | 0,_,_=>none
 |n+1,c,f=>match c with
  | .skip=>some (.normal,f)
  | .label _=>some (.normal,f)
  | .ret=>some (.ret,f)
  | .region _ ops false=>match Nq P G ops ops.toList f with
    | some f'=>some (.normal,f')
    | none=>none
  | .seq a b=>match runD P G n a f with
    | some (.normal,f')=>runD P G n b f'
    | some (.ret,f')=>some (.ret,f')
    | _=>none
  | .cond c a b=>match okOp G c,ev f c with
    | true,.bool true=>runD P G n a f
    | true,.bool false=>runD P G n b f
    | _,_=>none
  | _=>none
def Rk (P:Program) (G:Gl):List (FuncId×List Value)->Bool
 | []=>true
 |(g,args)::r=>match P.funcs[g]? with
  |some fn=>match fn.name== "runtime.NumGoroutine",fn.body,fn.results.toList with
   |false,some c,[]=>match Nat.ble args.length lim,runD P G 100 c (Ml fn args) with
    |true,some (_,f)=>match f.defers with
     | []=>Rk P G r
     | _=>false
    | _,_=>false
   | _,_,_=>false
  | none=>false
def intEq:Int->Int->Bool
 | .ofNat a,.ofNat b=>Nat.beq a b
 | .negSucc a,.negSucc b=>Nat.beq a b
 | _,_=>false
def addrEq:Option Addr->Option Addr->Bool
 | none,none=>true
 | some ⟨b,o,none⟩,some ⟨c,p,none⟩=>Nat.beq b c&&Nat.beq o p
 | _,_=>false
def nameEq:Option Nat->Option Nat->Bool
 | none,none=>true
 | some b,some c=>Nat.beq b c
 | _,_=>false
def boolEq:Bool->Bool->Bool
 | true,true=>true
 | false,false=>true
 | _,_=>false
def veq0 (x y:Value):Bool:=match x with
 | .int k i=>match y with
   | .int l j=>Nat.beq k.ctorIdx l.ctorIdx&&intEq i j
   | _=>false
 | .bool b=>match y with
   | .bool c=>boolEq b c
   | _=>false
 | .string a=>match y with
   | .string b=>Gp a.data.toList b.data.toList
   | _=>false
 | .pointer a=>match y with
   | .pointer b=>addrEq a b
   | _=>false
 | .slice a l c=>match y with
   | .slice b m d=>addrEq a b&&(Nat.beq l m&&Nat.beq c d)
   | _=>false
 | .map r=>match y with
   | .map q=>nameEq r q
   | _=>false
 | .nilIface=>match y with
   | .nilIface=>true
   | _=>false
 | .nilFunc=>match y with
   | .nilFunc=>true
   | _=>false
 | _=>false
def all2 {α:Type} (p:α->α->Bool):List α->List α->Bool
 | [],[]=>true
 | x::r,y::q=>p x y&&all2 p r q
 | _,_=>false
def nest (p:Value->Value->Bool) (x y:Value):Bool:=match x with
 | .agg a=>match y with
   | .agg b=>all2 p a.toList b.toList
   | _=>false
 | .tuple a=>match y with
   | .tuple b=>all2 p a.toList b.toList
   | _=>false
 | .iface t v=>match y with
   | .iface u w=>Nat.beq t u&&p v w
   | _=>false
 | x=>veq0 x y
def veq (x y:Value):Bool:=nest (nest veq0) x y
def entEq (x y:MapEntry):Bool:=veq x.key y.key&&(veq x.val y.val&&Nat.beq x.born y.born)
def oeq (x y:AObj):Bool:=match x with
 | .row cs e z=>match y with
   | .row ds f u=>all2 veq cs ds&&(Nat.beq e f&&Nat.beq z u)
   | _=>false
 | .map es c=>match y with
   | .map fs d=>all2 entEq es fs&&Nat.beq c d
   | _=>false
def Ja:List (Nat×AObj)->Tr AObj->Tr AObj
 | [],t=>t
 | (b,o)::r,t=>setK deep (Ja r t) b (some o) fun t=>t
def Yz (s:HS):List (Nat×AObj)->Bool
 | []=>true
 |(b,o)::r=>match s.at b with
  |some o'=>match oeq o' o with
   | true=>Yz s r
   | false=>false
  | none=>false
def Rc:List Known->Nat->List Value->HS->Option (Value×HS)
 | [],_,_,_=>none
 |x::r,g,args,s=>match Nat.beq g x.fn&&(Nat.ble s.next x.n0&&(all2 veq args x.args&&(Yz s x.inH&&(Nat.ble x.n1 lim&&x.outH.all fun p=>Nat.ble x.n0 p.1&&Nat.blt p.1 x.n1)))) with
  | true=>some (x.v,⟨Ja x.outH s.heap,x.n1,s.log⟩)
  | false=>Rc r g args s
def callN (P:Program) (G:Gl) (rec:Rec) (g:FuncId) (args:List Value) (s:HS):Option (Value×HS):=match P.funcs[g]? with
 |some fn=>match fn.body with
  |some c=>match Nat.ble args.length lim,enterK fn args (fun f=>rec c f s) with
   |true,some (.normal,f,s')=>match Rk P G f.defers,Mx P f s' fn.results.toList with
    | true,some v=>some (v,s')
    | _,_=>none
   |true,some (.ret,f,s')=>match Rk P G f.defers,Mx P f s' fn.results.toList with
    | true,some v=>some (v,s')
    | _,_=>none
   | _,_=>none
  | none=>none
 | none=>none
def Sj (P:Program) (G:Gl) (rec:Rec) (g:FuncId) (args:List Value) (s:HS):Option (Value×HS):=match Rc G.known g args s with
 | some r=>some r
 | none=>callN P G rec g args s
def Lr (P:Program) (G:Gl) (rec:Rec) (f:AF) (s:HS) (o:Oper):Option (Value×HS):=match Tn P G f s o with
 | some (.val v s')=>some (v,s')
 | some (.enter g args)=>Sj P G rec g args s
 | none=>none
def deferA (f:AF) (o:Oper):Option AF:=match o.op with
 | .defer ⟨.value g,args,_⟩=>match ev f g with
   | .func (.func g) first captured=>some ⟨f.tmps,f.size,(g,first.toList++args.toList.map (ev f)++captured.toList)::f.defers⟩
   | _=>none
 | _=>none
def My (P:Program) (G:Gl) (rec:Rec) (ops:Array Oper):List Oper->AF->HS->Option (AF×HS)
 | [],f,s=>some (f,s)
 |o::r,f,s=>match Hn ops f o with
  |false=>match f.putO o.dst undef with
   | some f'=>My P G rec ops r f' s
   | none=>none
  |true=>match deferA f o with
   |some f'=>match o.op.operands.all (okOp G),f'.putO o.dst undef with
    | true,some f''=>My P G rec ops r f'' s
    | _,_=>none
   |none=>match Lr P G rec f s o with
    |some (v,s')=>match f.putO o.dst v with
     | some f'=>My P G rec ops r f' s'
     | none=>none
    | none=>none
structure DRec where
 k:Nat
 nms:List Nat
 rds:Option (List Nat)
structure DS where
 f:AF
 s:HS
 done:List DRec
def ancAt (anc:List Nat) (k:Nat):Nat:=anc.getD k 0
def Ht (anc:List Nat) (j k:Nat):Bool:=(ancAt anc k).testBit j
def Uy (anc:List Nat) (k:Nat) (o:Oper):Bool:=
 o.after.toList.all (fun e=> !Region.binds .any e||Nat.blt e.on k)&&
 (List.range k).all fun j=> !Ht anc j k||o.after.toList.any fun e=>Region.binds .any e&&(Nat.beq e.on j||(Ht anc j e.on&&Nat.blt j e.on))
def Pm (ops:Array Oper) (anc:List Nat) (k:Nat) (o:Oper):Bool:=
 (List.range k).all fun j=>match ops[j]? with
   | some x=>(match x.dst with | some d=>o.dst != some d | none=>true)&&(Ht anc j k||Oper.apart ops x o)
   | none=>false
def statOk (ops:Array Oper) (anc:List Nat):List Oper->Nat->Bool
 | [],_=>true
 | o::r,k=>Uy anc k o&&(Pm ops anc k o&&statOk ops anc r (k+1))
def Kh:List Nat->Tr AObj->Tr AObj
 | [],t=>t
 | b::r,t=>setK deep t b none fun t=>Kh r t
def overlay (src:Tr AObj):List Nat->Tr AObj->Option (Tr AObj)
 | [],t=>some t
 |b::r,t=>match Nat.ble b lim with
  |true=>match src.get b with
   | some o=>setK deep t b (some o) fun t=>overlay src r t
   | none=>setK deep t b none fun t=>overlay src r t
  | false=>none
def touched (lo hi:Nat) (l:List Nat):List Nat:=l.filter fun b=> !(Nat.ble lo b&&Nat.blt b hi)
def readsOf (f:AF) (o:Op):Option (List Nat):=match o with
 | .load _ x=>match ptrA (ev f x) with
   | some (b,_)=>some [b]
   | none=>none
 | .store _ x _=>match ptrA (ev f x) with
   | some (b,_)=>some [b]
   | none=>none
 | .slice _ x _ _ _=>match ev f x with
   | .slice (some ⟨b,_,none⟩) _ _=>some [b]
   | .pointer (some ⟨b,_,none⟩)=>some [b]
   | _=>none
 | _=>none
def Qg (rem:List Nat) (t:Tr AObj):List Nat->Tr AObj
 | []=>.leaf
 |b::r=>match Nat.ble b lim&& !rem.contains b,t.get b with
  | true,some o=>setK deep (Qg rem t r) b (some o) fun t=>t
  | _,_=>Qg rem t r
def heapFor (t:Tr AObj) (rem:List Nat):Option (List Nat)->Tr AObj
 | none=>Kh rem t
 | some l=>Qg rem t l
def apartR (tch:List Nat):Option (List Nat)->Bool
 | some l=>tch.all fun b=> !l.contains b
 | none=>false
def free (inc:List DRec) (tch:List Nat):Bool:=match tch with
 | []=>true
 | tch=>inc.all fun x=>apartR tch x.rds
def direct (rem:List Nat) (rds:Option (List Nat)):Bool:=match rem with
 | []=>match rds with
   | none=>true
   | some _=>false
 | _=>false
def joinA (s t:HS) (inc:List DRec) (rem:List Nat) (rds:Option (List Nat)) (tch:List Nat):Option (HS×List Nat):=match Nat.ble t.next lim&&tch.all (fun b=>Nat.blt b s.next&& !rem.contains b),free inc tch,direct rem rds with
 | true,true,true=>some (⟨t.heap,t.next,t.log++s.log⟩,List.range' s.next (t.next-s.next)++tch)
 |true,true,false=>match overlay t.heap (List.range' s.next (t.next-s.next)++tch) s.heap with
  | some h=>some (⟨h,t.next,t.log++s.log⟩,List.range' s.next (t.next-s.next)++tch)
  | none=>none
 | _,_,_=>none
def heapStep (P:Program) (G:Gl) (rec:Rec) (f:AF) (s:HS) (o:Oper) (inc:List DRec) (rem:List Nat) (rds:Option (List Nat)):Option (Value×HS×List Nat):=match Lr P G rec f ⟨heapFor s.heap rem rds,s.next,[]⟩ o with
 |some (v,t)=>match joinA s t inc rem rds (touched s.next t.next t.log) with
  | some (s',nms)=>some (v,s',nms)
  | none=>none
 | none=>none
def Vu (P:Program) (G:Gl) (rec:Rec) (ops:Array Oper) (anc:List Nat) (k:Nat) (o:Oper) (d:DS):Option DS:=match Hn ops d.f o with
 |false=>match d.f.putO o.dst undef with
  | some f'=>some ⟨f',d.s,d.done⟩
  | none=>none
 |true=>match Ux G o.op with
  | false=>none
  |true=>match heapless P d.f o with
   |some v=>match d.f.putO o.dst v with
    | some f'=>some ⟨f',d.s,d.done⟩
    | none=>none
   |none=>match heapStep P G rec d.f d.s o (d.done.filter fun x=> !Ht anc x.k k) ((d.done.filter fun x=> !Ht anc x.k k).flatMap (·.nms)) (readsOf d.f o.op) with
    |some (v,s',nms)=>match d.f.putO o.dst v with
     | some f'=>some ⟨f',s',⟨k,nms,readsOf d.f o.op⟩::d.done⟩
     | none=>none
    | none=>none
def Un (P:Program) (G:Gl) (rec:Rec) (ops:Array Oper) (anc:List Nat):List Oper->Nat->DS->Option DS
 | [],_,d=>some d
 |o::r,k,d=>match Vu P G rec ops anc k o d with
  | some d'=>Un P G rec ops anc r (k+1) d'
  | none=>none
def Qm (P:Program) (G:Gl) (rec:Rec) (ops:Array Oper) (anc:List Nat) (f:AF) (s:HS):Option (AF×HS):=match statOk ops anc ops.toList 0 with
 | false=>none
 |true=>match Un P G rec ops anc ops.toList 0 ⟨f,s,[]⟩ with
  | some d=>some (d.f,d.s)
  | none=>none
def iter (rec:Rec) (c:Code):Nat->AF->HS->Option (AX×AF×HS)
 | 0,_,_=>none
 |n+1,f,s=>match rec c f s with
  | some (.normal,f',s')=>iter rec c n f' s'
  | some (.exit i,f',s')=>some (.exit i,f',s')
  | some (.ret,f',s')=>some (.ret,f',s')
  | none=>none
def step (P:Program) (G:Gl) (n:Nat) (rec:Rec):Rec:=fun c f s=>match c with
 | .skip=>some (.normal,f,s)
 | .label _=>some (.normal,f,s)
 | .region _ ops false=>match My P G rec ops ops.toList f s with
   | some (f',s')=>some (.normal,f',s')
   | none=>none
 | .region _ ops true=>match Qm P G rec ops (Region.before ops).toList f s with
   | some (f',s')=>some (.normal,f',s')
   | none=>none
 | .seq a b=>match rec a f s with
   | some (.normal,f',s')=>rec b f' s'
   | some (.exit i,f',s')=>some (.exit i,f',s')
   | some (.ret,f',s')=>some (.ret,f',s')
   | none=>none
 | .cond c a b=>match okOp G c,ev f c with
   | true,.bool true=>rec a f s
   | true,.bool false=>rec b f s
   | _,_=>none
 | .block id c=>match rec c f s with
   |some (.exit i,f',s')=>match Nat.beq i id with
    | true=>some (.normal,f',s')
    | false=>some (.exit i,f',s')
   | some (.normal,f',s')=>some (.normal,f',s')
   | some (.ret,f',s')=>some (.ret,f',s')
   | none=>none
 | .loop c=>iter rec c n f s
 | .exit id=>some (.exit id,f,s)
 | .ret=>some (.ret,f,s)
 | .scope c=>rec c f s
 | _=>none
def run (P:Program) (G:Gl) (n:Nat):Rec:=@Nat.rec (fun _=>Rec) (fun _ _ _=>none) (fun n ih=>step P G n ih) n
end Cx
end Go.Proofs.YtjefcpjciogcjaaGreatDoor
