/- An abstract machine over the model's own code: values, heap, operations. Nothing here is about one program. -/
import Derived.Orders
import Derived.LoopN
import Derived.Laws.AppendOwn
import Derived.Below
set_option autoImplicit false
namespace Go.Ev

/-! ### 1. Tries: a map from numbers -/
inductive T (α : Type) where
  | e
  | n (o : Option α) (l r : T α)
namespace T
variable {α : Type}
def get : T α → Nat → Option α
  | .e, _ => none
  | .n o _ _, 0 => o
  | .n _ l r, k + 1 => bif Nat.beq (Nat.mod k 2) 0 then l.get (Nat.div k 2) else r.get (Nat.div k 2)
def put : Nat → T α → Nat → α → T α
  | 0, t, _, _ => t
  | _ + 1, .e, 0, v => .n (some v) .e .e
  | f + 1, .e, k + 1, v => bif Nat.beq (Nat.mod k 2) 0 then .n none (put f .e (Nat.div k 2) v) .e else .n none .e (put f .e (Nat.div k 2) v)
  | _ + 1, .n _ l r, 0, v => .n (some v) l r
  | f + 1, .n o l r, k + 1, v => bif Nat.beq (Nat.mod k 2) 0 then .n o (put f l (Nat.div k 2) v) r else .n o l (put f r (Nat.div k 2) v)
def set (t : T α) (k : Nat) (v : α) : T α := put (k + 1) t k v
end T

/-! ### 2. Values -/
/-- What may be appended to a slice in place: nothing is known; its capacity is its length; it is the last of a chain. -/
inductive Own where
  | no
  | full
  | ch (id : Nat)

inductive AV where
  | bool (b : Bool)
  | int (k : IntKind) (n : Int)
  | str (s : List Nat)
  | ptr (a : Option (Nat × Nat))
  | vp (cs : List AV)
  | sl (o : Own) (els : List AV)
  | map (r : Option Nat)
  | fn (f : Nat) (first captured : List AV)
  | nilFn
  | iface (t : Nat) (v : AV)
  | nilIface
  | agg (cs : List AV)
  | tup (vs : List AV)
instance : Inhabited AV := ⟨.tup []⟩

def AV.cells : AV → List AV
  | .agg cs => cs
  | v => [v]

def AV.one : AV → Bool
  | .agg _ => false
  | .tup _ => false
  | _ => true

def Own.beq : Own → Own → Bool
  | .no, .no => true
  | .full, .full => true
  | .ch a, .ch b => Nat.beq a b
  | _, _ => false

def ikBeq : IntKind → IntKind → Bool
  | .i8, .i8 | .i16, .i16 | .i32, .i32 | .i64, .i64 | .u8, .u8 | .u16, .u16 | .u32, .u32 | .u64, .u64 => true
  | _, _ => false
def intBeq : Int → Int → Bool
  | .ofNat a, .ofNat b => Nat.beq a b
  | .negSucc a, .negSucc b => Nat.beq a b
  | _, _ => false
def natsBeq : List Nat → List Nat → Bool
  | [], [] => true
  | a :: l, b :: m => Nat.beq a b && natsBeq l m
  | _, _ => false
def optNatBeq : Option Nat → Option Nat → Bool
  | none, none => true
  | some a, some b => Nat.beq a b
  | _, _ => false
def optPairBeq : Option (Nat × Nat) → Option (Nat × Nat) → Bool
  | none, none => true
  | some (a, b), some (c, d) => Nat.beq a c && Nat.beq b d
  | _, _ => false

mutual
def AV.beq : AV → AV → Bool
  | .bool a, .bool b => a == b
  | .int k a, .int j b => ikBeq k j && intBeq a b
  | .str a, .str b => natsBeq a b
  | .ptr a, .ptr b => optPairBeq a b
  | .vp a, .vp b => AV.beqs a b
  | .sl o a, .sl p b => o.beq p && AV.beqs a b
  | .map a, .map b => optNatBeq a b
  | .fn f a b, .fn g c d => Nat.beq f g && (AV.beqs a c && AV.beqs b d)
  | .nilFn, .nilFn => true
  | .iface t a, .iface u b => Nat.beq t u && AV.beq a b
  | .nilIface, .nilIface => true
  | .agg a, .agg b => AV.beqs a b
  | .tup a, .tup b => AV.beqs a b
  | _, _ => false
def AV.beqs : List AV → List AV → Bool
  | [], [] => true
  | a :: l, b :: m => AV.beq a b && AV.beqs l m
  | _, _ => false
end

def bytesOf (s : ByteArray) : List Nat := s.data.toList.map (·.toNat)

def ofVal0 : Value → Option AV
  | .bool b => some (.bool b)
  | .int k n => some (.int k n)
  | .string s => some (.str (bytesOf s))
  | .pointer none => some (.ptr none)
  | .slice none 0 0 => some (.sl .full [])
  | .map none => some (.map none)
  | .nilFunc => some .nilFn
  | .nilIface => some .nilIface
  | _ => none
def all0 {α β : Type} (f : α → Option β) : List α → Option (List β)
  | [] => some []
  | a :: l => match f a with
    | none => none
    | some b => match all0 f l with
      | none => none
      | some m => some (b :: m)
def ofVal : Value → Option AV
  | .agg cs => (all0 ofVal0 cs.toList).map .agg
  | .tuple vs => (all0 ofVal0 vs.toList).map .tup
  | v => ofVal0 v

/-! ### 3. Types, as the operations ask of them -/
inductive TK where
  | st (fs : List (Nat × Nat × Bool))
  | ar (n elem : Nat)
  | sl (elem : Nat)
  | mp (key elem : Nat)
  | str
  | int (k : IntKind)
  | bool
  | ptr (elem : Nat)
  | iface
  | fn
  | tup
  | other
structure TyI where
  kind : TK
  sz : Nat
  byt : Nat
  zero : Option AV
  ag : Bool
  eqf : Option (List (Nat × Nat))

def isAggD : TypeDesc → Bool
  | .struct _ => true
  | .array _ _ => true
  | _ => false
def fieldOf (P : Program) (f : Field) : Option (Nat × Nat × Bool) :=
  match P.info? f.type, P.underlying f.type with
  | some i, some d => some (f.offset, i.size, isAggD d)
  | _, _ => none
def kindOf (P : Program) : TypeDesc → TK
  | .struct fs => match all0 (fieldOf P) fs.toList with
    | some l => .st l
    | none => .other
  | .array n e => .ar n e
  | .slice e => .sl e
  | .map k e => .mp k e
  | .string => .str
  | .int k => .int k
  | .bool => .bool
  | .pointer e => .ptr e
  | .interface _ => .iface
  | .func _ _ _ => .fn
  | .tuple _ => .tup
  | _ => .other
/-- A part of a struct that is a number, a string, a truth value: where, which. -/
def eqField (P : Program) (f : Field) : Option (Nat × Nat) :=
  match f.name == "_", P.info? f.type, P.underlying f.type with
  | false, some i, some (.int _) => bif Nat.beq i.size 1 then some (f.offset, 0) else none
  | false, some i, some .string => bif Nat.beq i.size 1 then some (f.offset, 1) else none
  | false, some i, some .bool => bif Nat.beq i.size 1 then some (f.offset, 2) else none
  | _, _, _ => none
/-- The parts of a struct of such parts alone. -/
def eqFlat (P : Program) (t : Nat) : Option (List (Nat × Nat)) :=
  match P.underlying t with
  | some (.struct fs) => match P.stoodInHeld t, P.eqGuardType P.depth t with
    | false, false => all0 (eqField P) fs.toList
    | _, _ => none
  | _ => none
def tyOf (P : Program) (t : Nat) : Option TyI :=
  match P.info? t, P.underlying t with
  | some i, some d => some ⟨kindOf P d, i.size, i.bytes, i.zero.bind ofVal, isAggD d, eqFlat P t⟩
  | _, _ => none

/-! ### 4. The heap -/
inductive Obj where
  | cells (cs : List AV)
  | map (es : List (AV × AV))
  | chain (n e s : Nat)
structure H where
  t : T Obj
  nx : Nat
def H.new (h : H) (o : Obj) : H := ⟨h.t.set h.nx o, h.nx + 1⟩
def H.put (h : H) (id : Nat) (o : Obj) : H := ⟨h.t.set id o, h.nx⟩

/-! ### 5. Operations -/
abbrev Tm := T AV
def val (tm : Tm) : Operand → Option AV
  | .tmp t => tm.get t
  | .const v => ofVal v
  | .func f => some (.fn f [] [])
  | .global _ => none

def i64lo (n : Int) : Bool :=
  match n with
  | .ofNat m => Nat.blt m 9223372036854775808
  | .negSucc m => Nat.blt m 9223372036854775808
def wr (k : IntKind) (n : Int) : Int :=
  match k with
  | .i64 => bif i64lo n then n else IntKind.wrap .i64 n
  | k => IntKind.wrap k n
def ltI : Int → Int → Bool
  | .ofNat a, .ofNat b => Nat.blt a b
  | .ofNat _, .negSucc _ => false
  | .negSucc _, .ofNat _ => true
  | .negSucc a, .negSucc b => Nat.blt b a
def nLess : List Nat → List Nat → Bool
  | _, [] => false
  | [], _ :: _ => true
  | a :: x, b :: y => Nat.blt a b || (Nat.beq a b && nLess x y)

def evInt (op : BinOp) (k : IntKind) (x y : Int) : Option AV :=
  match op with
  | .add => some (.int k (wr k (Int.add x y)))
  | .sub => some (.int k (wr k (Int.sub x y)))
  | .mul => some (.int k (wr k (Int.mul x y)))
  | .eql => some (.bool (intBeq x y))
  | .neq => some (.bool (!intBeq x y))
  | .lss => some (.bool (ltI x y))
  | .leq => some (.bool (!ltI y x))
  | .gtr => some (.bool (ltI y x))
  | .geq => some (.bool (!ltI x y))
  | .quo => bif intBeq y 0 then none else some (.int k (wr k (Int.tdiv x y)))
  | .rem => bif intBeq y 0 then none else some (.int k (Int.tmod x y))
  | .and => some (.int k (wr k (Int.ofNat (BitVec.toNat (BitVec.ofInt k.bits x &&& BitVec.ofInt k.bits y)))))
  | .or => some (.int k (wr k (Int.ofNat (BitVec.toNat (BitVec.ofInt k.bits x ||| BitVec.ofInt k.bits y)))))
  | .xor => some (.int k (wr k (Int.ofNat (BitVec.toNat (BitVec.ofInt k.bits x ^^^ BitVec.ofInt k.bits y)))))
  | _ => none
def evShift (op : BinOp) (k : IntKind) (x y : Int) : Option AV :=
  match op, y with
  | .shl, .ofNat n => some (.int k (wr k (Int.mul x (Int.ofNat (2 ^ (min n k.bits))))))
  | .shr, .ofNat n => some (.int k (Int.fdiv x (Int.ofNat (2 ^ (min n k.bits)))))
  | _, _ => none
def evStr (op : BinOp) (x y : List Nat) : Option AV :=
  match op with
  | .add => bif Nat.ble (x.length + y.length) 140737488355328 then some (.str (x ++ y)) else none
  | .eql => some (.bool (natsBeq x y))
  | .neq => some (.bool (!natsBeq x y))
  | .lss => some (.bool (nLess x y))
  | .leq => some (.bool (nLess x y || natsBeq x y))
  | .gtr => some (.bool (!(nLess x y || natsBeq x y)))
  | .geq => some (.bool (!nLess x y))
  | _ => none
/-- x == y, but for numbers and strings. -/
def evEq (k : TK) (x y : AV) : Option Bool :=
  match k, x, y with
  | .bool, .bool a, .bool b => some (a == b)
  | .ptr _, .ptr none, .ptr b => some b.isNone
  | .ptr _, .ptr (some _), .ptr none => some false
  | .iface, .iface _ _, .nilIface => some false
  | .iface, .nilIface, .iface _ _ => some false
  | _, _, _ => none
/-- Two parts. -/
def cellEq (c : Nat) (x y : AV) : Option Bool :=
  match c, x, y with
  | 0, .int k a, .int j b => bif ikBeq k j then some (intBeq a b) else none
  | 1, .str a, .str b => some (natsBeq a b)
  | 2, .bool a, .bool b => some (a == b)
  | _, _, _ => none
def evFlat : List (Nat × Nat) → List AV → List AV → Option Bool
  | [], _, _ => some true
  | (off, c) :: r, a, b => match a[off]?, b[off]? with
    | some x, some y => match cellEq c x y with
      | none => none
      | some false => some false
      | some true => evFlat r a b
    | _, _ => none
def isShift : BinOp → Bool
  | .shl | .shr => true
  | _ => false
def evBin (ty : Nat → Option TyI) (op : BinOp) (t : Nat) (x y : AV) : Option AV :=
  match x, y with
  | .int k a, .int j b => bif isShift op then evShift op k a b else bif ikBeq k j then evInt op k a b else none
  | .str a, .str b => evStr op a b
  | .agg a, .agg b => match ty t with
    | none => none
    | some i => match i.eqf with
      | none => none
      | some l => match op with
        | .eql => (evFlat l a b).map .bool
        | .neq => (evFlat l a b).map fun r => .bool (!r)
        | _ => none
  | x, y => match ty t with
    | none => none
    | some i => match op with
      | .eql => (evEq i.kind x y).map .bool
      | .neq => (evEq i.kind x y).map fun b => .bool (!b)
      | _ => none

def fillAt : List AV → Nat → List AV → List AV
  | cs, 0, [] => cs
  | [], _, _ => []
  | _ :: l, 0, v :: vs => v :: fillAt l 0 vs
  | c :: l, k + 1, vs => c :: fillAt l k vs
def fillF (fs : List (Nat × Nat × Bool)) : List AV → List (Nat × AV) → Option (List AV)
  | cs, [] => some cs
  | cs, (i, v) :: r => match fs[i]? with
    | none => none
    | some (off, sz, _) =>
      bif Nat.beq v.cells.length sz && Nat.ble (off + sz) cs.length then fillF fs (fillAt cs off v.cells) r else none

def allVals (tm : Tm) : List Operand → Option (List AV)
  | [] => some []
  | x :: l => match val tm x with
    | none => none
    | some v => match allVals tm l with
      | none => none
      | some m => some (v :: m)
def denseFrom : Nat → List (Nat × Operand) → Bool
  | _, [] => true
  | n, (i, _) :: l => Nat.beq i n && denseFrom (n + 1) l

def sizesAre (s : Nat) : List AV → Bool
  | [] => true
  | v :: l => Nat.beq v.cells.length s && sizesAre s l
def allOne : List AV → Bool
  | [] => true
  | v :: l => v.one && allOne l
def onesIn : List AV → Bool
  | [] => true
  | v :: l => allOne v.cells && onesIn l

def readAt (ag : Bool) (sz : Nat) (cs : List AV) (off : Nat) : Option AV :=
  bif ag then bif Nat.ble (off + sz) cs.length then some (.agg ((cs.drop off).take sz)) else none
  else cs[off]?

def keyOk (k : TK) (v : AV) : Bool :=
  match k, v with
  | .int j, .int k _ => ikBeq j k
  | .str, .str _ => true
  | _, _ => false
/-- Keys held against each other: none: they are not of one kind. -/
def keyCmp : AV → AV → Option Bool
  | .int k a, .int j b => bif ikBeq k j then some (intBeq a b) else none
  | .str a, .str b => some (natsBeq a b)
  | _, _ => none
def mapGet (k : AV) : List (AV × AV) → Option (Option AV)
  | [] => some none
  | (j, v) :: l => match keyCmp k j with
    | none => none
    | some true => some (some v)
    | some false => mapGet k l
def mapPut (k v : AV) : List (AV × AV) → Option (List (AV × AV))
  | [] => some [(k, v)]
  | (j, u) :: l => match keyCmp k j with
    | none => none
    | some true => some ((k, v) :: l)
    | some false => match mapPut k v l with
      | none => none
      | some m => some ((j, u) :: m)

def natOf : Option AV → Option (Option Nat)
  | none => some none
  | some (.int .i64 (.ofNat n)) => some (some n)
  | _ => none
def optVal (tm : Tm) : Option Operand → Option (Option AV)
  | none => some none
  | some x => (val tm x).map some

/-- x[lo:hi:mx]. -/
def evSlice (x : AV) (lo hi mx : Option Nat) : Option AV :=
  match x with
  | .str s =>
    let h := hi.getD s.length
    let l := lo.getD 0
    match mx with
    | some _ => none
    | none => bif Nat.ble l h && Nat.ble h s.length then some (.str ((s.drop l).take (h - l))) else none
  | .sl o els =>
    let h := hi.getD els.length
    let l := lo.getD 0
    match mx with
    | some m => match hi with
      | none => none
      | some _ => bif Nat.ble l h && (Nat.ble h m && Nat.ble m els.length) then some (.sl (bif Nat.beq h m then .full else .no) ((els.drop l).take (h - l))) else none
    | none => bif Nat.ble l h && Nat.ble h els.length then
        some (.sl (bif Nat.beq h els.length then (match o with | .full => .full | .ch id => (bif Nat.beq l 0 then .ch id else .no) | .no => .no) else .no) ((els.drop l).take (h - l)))
      else none
  | _ => none

/-- append(x, ys...). -/
def evAppend (e sz byt : Nat) (h : H) (x : AV) (ys : List AV) : Option (AV × H) :=
  match x with
  | .sl o els =>
    bif Nat.blt 0 sz && (Nat.blt 0 byt && (sizesAre sz ys && (onesIn ys && (sizesAre sz els && Nat.ble ((els.length + ys.length) * byt) 140737488355328)))) then
      match ys with
      | [] => some (.sl o els, h)
      | _ :: _ => match o with
        | .no => none
        | .full => some (.sl (.ch h.nx) (els ++ ys), h.new (.chain (els.length + ys.length) e sz))
        | .ch id => match h.t.get id with
          | some (.chain n e' s') => bif Nat.beq n els.length && (Nat.beq e' e && Nat.beq s' sz) then some (.sl (.ch id) (els ++ ys), h.put id (.chain (els.length + ys.length) e sz)) else none
          | _ => none
    else none
  | _ => none

/-- The bytes of a row of bytes. -/
def byteEls : List AV → Option (List Nat)
  | [] => some []
  | .int .u8 (.ofNat n) :: l => match byteEls l with
    | none => none
    | some m => bif Nat.blt n 256 then some (n :: m) else none
  | _ :: _ => none

/-- Operations whose value hangs on their operands alone. -/
def evPure (ty : Nat → Option TyI) (tm : Tm) (o : Op) : Option AV :=
  match o with
  | .move x => val tm x
  | .assign x => val tm x
  | .pick c a b => match val tm c with
    | some (.bool t) => bif t then val tm a else val tm b
    | _ => none
  | .build t parts => match ty t with
    | some ⟨.st fs, _, _, some z, _, _⟩ => match allVals tm (parts.toList.map (·.2)) with
      | some vs => (fillF fs z.cells ((parts.toList.map (·.1)).zip vs)).map .agg
      | none => none
    | _ => none
  | .buildSlice t len parts => match ty t with
    | some ⟨.sl e, _, _, _, _, _⟩ => match ty e with
      | some ⟨_, sz, _, some z, _, _⟩ => match allVals tm (parts.toList.map (·.2)) with
        | some vs =>
          bif denseFrom 0 parts.toList && (Nat.beq vs.length len && (sizesAre sz vs && (Nat.blt 0 sz && (Nat.beq z.cells.length sz && Nat.ble (len * sz) 16777216)))) then some (.sl .full vs)
          else none
        | none => none
      | _ => none
    | _ => none
  | .nilCheck x => match val tm x with
    | some (.ptr (some a)) => some (.ptr (some a))
    | some (.vp cs) => some (.vp cs)
    | some (.fn f a b) => some (.fn f a b)
    | _ => none
  | .binOp op t x y _ => match val tm x, val tm y with
    | some a, some b => evBin ty op t a b
    | _, _ => none
  | .unOp op _ x => match op, val tm x with
    | .not, some (.bool b) => some (.bool (!b))
    | .neg, some (.int k n) => some (.int k (wr k (Int.sub 0 n)))
    | _, _ => none
  | .convert s d x => match ty s, ty d, val tm x with
    | some ⟨.int _, _, _, _, _, _⟩, some ⟨.int k, _, _, _, _, _⟩, some (.int _ n) => some (.int k (wr k n))
    | some ⟨.str, _, _, _, _, _⟩, some ⟨.str, _, _, _, _, _⟩, some (.str b) => some (.str b)
    | some ⟨.str, _, _, _, _, _⟩, some ⟨.sl e, _, _, _, _, _⟩, some (.str b) => match ty e with
      | some ⟨.int .u8, _, _, _, _, _⟩ => bif Nat.ble b.length 140737488355328 then some (.sl .no (b.map fun n => .int .u8 (Int.ofNat n))) else none
      | _ => none
    | some ⟨.sl e, _, _, _, _, _⟩, some ⟨.str, _, _, _, _, _⟩, some (.sl _ els) => match ty e with
      | some ⟨.int .u8, _, _, _, _, _⟩ => (byteEls els).map .str
      | _ => none
    | _, _, _ => none
  | .makeInterface t x => match ty t, val tm x with
    | some ⟨.iface, _, _, _, _, _⟩, _ => none
    | some _, some v => some (.iface t v)
    | _, _ => none
  | .makeFunc fn first captured => match fn, allVals tm first.toList, allVals tm captured.toList with
    | .func f, some a, some b => some (.fn f a b)
    | _, _, _ => none
  | .fieldAddr s x f => match ty s with
    | some ⟨.st fs, _, _, _, _, _⟩ => match fs[f]? with
      | some (off, sz, _) => bif Nat.beq sz 0 then none else match val tm x with
        | some (.ptr (some (id, o))) => some (.ptr (some (id, o + off)))
        | some (.vp cs) => some (.vp (cs.drop off))
        | _ => none
      | none => none
    | _ => none
  | .field t x f => match ty t, val tm x with
    | some ⟨.st fs, _, _, _, _, _⟩, some (.agg cs) => match fs[f]? with
      | some (off, sz, ag) => readAt ag sz cs off
      | none => none
    | _, _ => none
  | .indexAddr t x i => match ty t with
    | some ⟨.sl e, _, _, _, _, _⟩ => match ty e, val tm x, val tm i with
      | some ie, some (.sl _ els), some (.int _ (.ofNat n)) => match els[n]? with
        | some v => bif Nat.beq v.cells.length ie.sz then some (.vp v.cells) else none
        | none => none
      | _, _, _ => none
    | _ => none
  | .index t x i => match ty t with
    | some ⟨.str, _, _, _, _, _⟩ => match val tm x, val tm i with
      | some (.str s), some (.int _ (.ofNat n)) => match s[n]? with
        | some b => some (.int .u8 (Int.ofNat b))
        | none => none
      | _, _ => none
    | _ => none
  | .extract x i => match val tm x with
    | some (.tup vs) => vs[i]?
    | _ => none
  | .slice t x lo hi mx => match ty t, val tm x, optVal tm lo, optVal tm hi, optVal tm mx with
    | some i, some v, some l, some hh, some m => match i.kind, v, natOf l, natOf hh, natOf m with
      | .str, .str s, some l, some hh, some m => evSlice (.str s) l hh m
      | .sl e, .sl o els, some l, some hh, some m => match ty e with
        | some ie => bif sizesAre ie.sz els then evSlice (.sl o els) l hh m else none
        | none => none
      | _, _, _, _, _ => none
    | _, _, _, _, _ => none
  | _ => none

/-- The least, or the greatest, of two numbers. -/
def evMin (mx : Bool) (vs : Option (List AV)) : Option AV :=
  match vs with
  | some [.int k x, .int j y] => bif ikBeq k j then some (.int k (bif (bif mx then ltI x y else ltI y x) then y else x)) else none
  | _ => none
/-- Operations that look into the heap. -/
def evRead (ty : Nat → Option TyI) (tm : Tm) (h : H) (o : Op) : Option AV :=
  match o with
  | .load t a => match ty t, val tm a with
    | some i, some (.vp cs) => readAt i.ag i.sz cs 0
    | some i, some (.ptr (some (id, off))) => match h.t.get id with
      | some (.cells cs) => readAt i.ag i.sz cs off
      | _ => none
    | _, _ => none
  | .lookup t m k ok => match ty t with
    | some ⟨.mp kt et, _, _, _, _, _⟩ => match ty kt, ty et, val tm k with
      | some ik, some ⟨_, _, _, some z, _, _⟩, some key =>
        bif keyOk ik.kind key then match val tm m with
          | some (.map none) => some (bif ok then .tup [z, .bool false] else z)
          | some (.map (some id)) => match h.t.get id with
            | some (.map es) => match mapGet key es with
              | none => none
              | some (some v) => some (bif ok then .tup [v, .bool true] else v)
              | some none => some (bif ok then .tup [z, .bool false] else z)
            | _ => none
          | _ => none
        else none
      | _, _, _ => none
    | _ => none
  | .call c => match c.callee with
    | .builtin .len => match c.argTypes.toList, allVals tm c.args.toList with
      | [t], some [x] => match ty t with
        | none => none
        | some i => match i.kind, x with
          | .str, .str s => some (.int .i64 (Int.ofNat s.length))
          | .sl _, .sl _ els => some (.int .i64 (Int.ofNat els.length))
          | .mp _ _, .map none => some (.int .i64 0)
          | .mp _ _, .map (some r) => match h.t.get r with
            | some (.map es) => some (.int .i64 (Int.ofNat es.length))
            | _ => none
          | _, _ => none
      | _, _ => none
    | .builtin .min => evMin false (allVals tm c.args.toList)
    | .builtin .max => evMin true (allVals tm c.args.toList)
    | _ => none
  | _ => none

/-- Operations that make an object: the object, and what it is called. -/
def evNew (ty : Nat → Option TyI) (tm : Tm) (o : Op) : Option (Obj × (Nat → AV)) :=
  match o with
  | .alloc t => match ty t with
    | some ⟨_, _, _, some z, _, _⟩ => some (.cells z.cells, fun n => .ptr (some (n, 0)))
    | _ => none
  | .box _ x => match val tm x with
    | some v => some (.cells v.cells, fun n => .ptr (some (n, 0)))
    | none => none
  | .makeMap _ r => match r with
    | none => some (.map [], fun n => .map (some n))
    | some _ => none
  | _ => none

def evUpd (ty : Nat → Option TyI) (tm : Tm) (h : H) (t : Nat) (m k x : Operand) : Option (AV × H) :=
  match ty t with
  | some ⟨.mp kt _, _, _, _, _, _⟩ => match ty kt, val tm m, val tm k, val tm x with
    | some ik, some (.map (some id)), some key, some v => match h.t.get id with
      | some (.map es) => bif keyOk ik.kind key then match mapPut key v es with | none => none | some m => some (.tup [], h.put id (.map m)) else none
      | _ => none
    | _, _, _, _ => none
  | _ => none

/-- Operations that write. -/
def evWrite (ty : Nat → Option TyI) (tm : Tm) (h : H) (o : Op) : Option (AV × H) :=
  match o with
  | .store t a x => match ty t, val tm a, val tm x with
    | some i, some (.ptr (some (id, off))), some v => match h.t.get id with
      | some (.cells cs) =>
        bif Nat.beq v.cells.length i.sz && (Nat.ble (off + i.sz) cs.length && allOne v.cells) then some (.tup [], h.put id (.cells (fillAt cs off v.cells)))
        else none
      | _ => none
    | _, _, _ => none
  | .mapUpdate t m k x => evUpd ty tm h t m k x
  | .insert t m k x => evUpd ty tm h t m k x
  | .call c => match c.callee with
    | .builtin .append => match c.argTypes.toList, allVals tm c.args.toList with
      | [t, u], some [x, .sl _ ys] => match ty t, ty u with
        | some ⟨.sl e, _, _, _, _, _⟩, some ⟨.sl _, _, _, _, _, _⟩ => match ty e with
          | some ⟨_, sz, byt, some z, _, _⟩ => bif Nat.beq z.cells.length sz then evAppend e sz byt h x ys else none
          | _ => none
        | _, _ => none
      | _, _ => none
    | _ => none
  | _ => none

inductive OK where
  | pure
  | read
  | new
  | write
def opKind : Op → OK
  | .load .. | .lookup .. => .read
  | .alloc _ | .box .. | .makeMap .. => .new
  | .store .. | .mapUpdate .. | .insert .. => .write
  | .call c => match c.callee with
    | .builtin .len => .read
    | .builtin .min => .read
    | .builtin .max => .read
    | _ => .write
  | _ => .pure

/-- An operation that is no call of a function: its value, the heap behind it. -/
def evOp (ty : Nat → Option TyI) (tm : Tm) (h : H) (o : Op) : Option (AV × H) :=
  match opKind o with
  | .pure => match evPure ty tm o with
    | some v => some (v, h)
    | none => none
  | .read => match evRead ty tm h o with
    | some v => some (v, h)
    | none => none
  | .new => match evNew ty tm o with
    | some (ob, f) => some (f h.nx, h.new ob)
    | none => none
  | .write => evWrite ty tm h o

end Go.Ev
/- What the abstract machine's values and heap say of the model's: the relation, and that it lasts. -/
set_option autoImplicit false
set_option linter.unusedSectionVars false
set_option linter.unusedVariables false
set_option linter.unusedSimpArgs false
namespace Go.Ev

/-! ### 1. Tries -/
namespace T
variable {α : Type}
theorem bif_even {β : Type} (k : Nat) (x y : β) : (bif Nat.beq (Nat.mod k 2) 0 then x else y) = if k % 2 = 0 then x else y := by
  show (bif Nat.beq (k % 2) 0 then x else y) = _
  by_cases h : k % 2 = 0
  · simp [h]
  · have : Nat.beq (k % 2) 0 = false := by
      cases hb : Nat.beq (k % 2) 0
      · rfl
      · exact absurd (Nat.eq_of_beq_eq_true hb) h
    simp [this, h]
theorem put_same (f : Nat) : ∀ (t : T α) (k : Nat) (v : α), k < f → (put f t k v).get k = some v := by
  induction f with
  | zero => intro t k v h; omega
  | succ f ih =>
    intro t k v h
    cases t with
    | e =>
      cases k with
      | zero => rfl
      | succ k =>
        simp only [put, bif_even]
        split
        · rename_i he; simp only [get, bif_even, he, if_true]; exact ih _ _ _ (Nat.lt_of_le_of_lt (Nat.div_le_self k 2) (by omega))
        · rename_i he; simp only [get, bif_even, he, if_false]; exact ih _ _ _ (Nat.lt_of_le_of_lt (Nat.div_le_self k 2) (by omega))
    | n o l r =>
      cases k with
      | zero => rfl
      | succ k =>
        simp only [put, bif_even]
        split
        · rename_i he; simp only [get, bif_even, he, if_true]; exact ih _ _ _ (Nat.lt_of_le_of_lt (Nat.div_le_self k 2) (by omega))
        · rename_i he; simp only [get, bif_even, he, if_false]; exact ih _ _ _ (Nat.lt_of_le_of_lt (Nat.div_le_self k 2) (by omega))
theorem get_e (k : Nat) : (T.e : T α).get k = none := by cases k <;> rfl
theorem put_ne (f : Nat) : ∀ (t : T α) (k j : Nat) (v : α), j ≠ k → (put f t k v).get j = t.get j := by
  induction f with
  | zero => intro t k j v h; rfl
  | succ f ih =>
    intro t k j v h
    cases t with
    | e =>
      rw [get_e]
      cases k with
      | zero =>
        cases j with
        | zero => exact absurd rfl h
        | succ j =>
          simp only [put, get, bif_even]
          split
          · exact get_e (Nat.div j 2)
          · exact get_e (Nat.div j 2)
      | succ k =>
        simp only [put, bif_even]
        cases j with
        | zero => split <;> rfl
        | succ j =>
          split
          · rename_i he
            simp only [get, bif_even]
            split
            · rename_i hj
              rw [ih _ _ _ _ (by show j / 2 ≠ k / 2; omega)]; exact get_e (Nat.div j 2)
            · exact get_e (Nat.div j 2)
          · rename_i he
            simp only [get, bif_even]
            split
            · exact get_e (Nat.div j 2)
            · rename_i hj
              rw [ih _ _ _ _ (by show j / 2 ≠ k / 2; omega)]; exact get_e (Nat.div j 2)
    | n o l r =>
      cases k with
      | zero =>
        cases j with
        | zero => exact absurd rfl h
        | succ j => rfl
      | succ k =>
        simp only [put, bif_even]
        cases j with
        | zero => split <;> rfl
        | succ j =>
          split
          · rename_i he
            simp only [get, bif_even]
            split
            · rename_i hj
              rw [ih _ _ _ _ (by show j / 2 ≠ k / 2; omega)]
            · rfl
          · rename_i he
            simp only [get, bif_even]
            split
            · rfl
            · rename_i hj
              rw [ih _ _ _ _ (by show j / 2 ≠ k / 2; omega)]
theorem get_set (t : T α) (k : Nat) (v : α) : (t.set k v).get k = some v := put_same _ _ _ _ (by omega)
theorem get_set_ne (t : T α) {k j : Nat} (v : α) (h : j ≠ k) : (t.set k v).get j = t.get j := put_ne _ _ _ _ _ h
end T

/-! ### 2. Booleans that stand for equalities -/
theorem beq_nat {a b : Nat} : Nat.beq a b = true ↔ a = b := ⟨Nat.eq_of_beq_eq_true, fun h => by subst h; exact Nat.beq_refl a⟩
theorem beq_no {a b : Nat} (h : ¬ a = b) : Nat.beq a b = false := by
  cases hb : Nat.beq a b with
  | false => rfl
  | true => exact absurd (beq_nat.1 hb) h
theorem blt_no {a b : Nat} (h : ¬ a < b) : Nat.blt a b = false := by
  cases hb : Nat.blt a b with
  | false => rfl
  | true => exact absurd (by simpa [Nat.blt, Nat.ble_eq, Nat.succ_le_iff] using hb) h
theorem blt_nat {a b : Nat} : Nat.blt a b = true ↔ a < b := by simp [Nat.blt, Nat.ble_eq]; omega
theorem ikBeq_eq {a b : IntKind} : ikBeq a b = true ↔ a = b := by cases a <;> cases b <;> simp [ikBeq]
theorem ikBeq_self (a : IntKind) : ikBeq a a = true := by cases a <;> rfl
theorem intBeq_eq (a b : Int) : intBeq a b = (a == b) := by
  cases a <;> cases b <;> simp only [intBeq]
  · rename_i m n
    by_cases h : m = n
    · subst h; simp
    · rw [beq_no h]; symm; rw [beq_eq_false_iff_ne]; intro e; injection e; omega
  · symm; rw [beq_eq_false_iff_ne]; simp
  · symm; rw [beq_eq_false_iff_ne]; simp
  · rename_i m n
    by_cases h : m = n
    · subst h; simp
    · rw [beq_no h]; symm; rw [beq_eq_false_iff_ne]; simp; omega
theorem natsBeq_eq : ∀ (a b : List Nat), natsBeq a b = (a == b)
  | [], [] => rfl
  | [], _ :: _ => rfl
  | _ :: _, [] => rfl
  | x :: a, y :: b => by
    simp only [natsBeq, natsBeq_eq a b, List.cons_beq_cons]
    congr 1
    by_cases h : x = y
    · subst h; simp
    · rw [beq_no h]; symm; simp [h]
theorem optNatBeq_eq {a b : Option Nat} : optNatBeq a b = true ↔ a = b := by cases a <;> cases b <;> simp [optNatBeq]
theorem optPairBeq_eq {a b : Option (Nat × Nat)} : optPairBeq a b = true ↔ a = b := by
  cases a with
  | none => cases b <;> simp [optPairBeq]
  | some p => cases b with
    | none => simp [optPairBeq]
    | some q => obtain ⟨x, y⟩ := p; obtain ⟨z, u⟩ := q; simp [optPairBeq]
theorem Own.beq_eq {a b : Own} : a.beq b = true ↔ a = b := by cases a <;> cases b <;> simp [Own.beq]

mutual
theorem AV.beq_eq : ∀ (a b : AV), AV.beq a b = true → a = b
  | .bool _, b => by cases b <;> simp [AV.beq]
  | .int _ _, b => by cases b <;> simp [AV.beq, ikBeq_eq, intBeq_eq]
  | .str _, b => by cases b <;> simp [AV.beq, natsBeq_eq]
  | .ptr _, b => by cases b <;> simp [AV.beq, optPairBeq_eq]
  | .vp l, b => by cases b <;> simp [AV.beq]; exact AV.beqs_eq l _
  | .sl o l, b => by cases b <;> simp [AV.beq, Own.beq_eq]; intro h1 h2; exact ⟨h1, AV.beqs_eq l _ h2⟩
  | .map _, b => by cases b <;> simp [AV.beq, optNatBeq_eq]
  | .fn _ l m, b => by cases b <;> simp [AV.beq]; intro h1 h2 h3; exact ⟨h1, AV.beqs_eq l _ h2, AV.beqs_eq m _ h3⟩
  | .nilFn, b => by cases b <;> simp [AV.beq]
  | .iface _ v, b => by cases b <;> simp [AV.beq]; intro h1 h2; exact ⟨h1, AV.beq_eq v _ h2⟩
  | .nilIface, b => by cases b <;> simp [AV.beq]
  | .agg l, b => by cases b <;> simp [AV.beq]; exact AV.beqs_eq l _
  | .tup l, b => by cases b <;> simp [AV.beq]; exact AV.beqs_eq l _
theorem AV.beqs_eq : ∀ (a b : List AV), AV.beqs a b = true → a = b
  | [], b => by cases b <;> simp [AV.beqs]
  | x :: a, b => by cases b <;> simp [AV.beqs]; intro h1 h2; exact ⟨AV.beq_eq x _ h1, AV.beqs_eq a _ h2⟩
end

/-! ### 3. The relation -/
/-- What is known of the two memories: where an object lies; of a chain its length and its last slice; from which cell on a block may be written; whose a block is; the first block of the call's own. -/
structure Gh where
  ρ : Nat → Option Nat
  cv : Nat → Option (Nat × Value)
  fr : Nat → Option Nat
  ow : Nat → Option Nat
  base : Nat

/-- A cell that is never written any more. -/
def Stb (G : Gh) (w : World) (b o : Nat) (v : Value) : Prop :=
  w.cell? ⟨b, o, none⟩ = some v ∧ (G.fr b = none ∨ ∃ k, G.fr b = some k ∧ o < k)

def OwnR (G : Gh) : Own → Value → Nat → Nat → Prop
  | .no, _, _, _ => True
  | .full, _, len, cap => cap = len
  | .ch id, v, len, _ => ∃ n v', G.cv id = some (n, v') ∧ len ≤ n ∧ (n = len → v' = v)

inductive VR (G : Gh) (w : World) : Value → AV → Prop
  | bool (b : Bool) : VR G w (.bool b) (.bool b)
  | int (k : IntKind) (n : Int) : VR G w (.int k n) (.int k n)
  | str (s : ByteArray) : VR G w (.string s) (.str (bytesOf s))
  | ptr0 : VR G w (.pointer none) (.ptr none)
  | ptr (id b off : Nat) (h : G.ρ id = some b) : VR G w (.pointer (some ⟨b, off, none⟩)) (.ptr (some (id, off)))
  | vp (b off : Nat) (cs : List AV) (f : Nat → Value) (h1 : ∀ j, j < cs.length → Stb G w b (off + j) (f j)) (h2 : ∀ j x, cs[j]? = some x → VR G w (f j) x) :
      VR G w (.pointer (some ⟨b, off, none⟩)) (.vp cs)
  | sl0 (A : Option Addr) (cap : Nat) (o : Own) (hn : A = none → cap = 0) (h : OwnR G o (.slice A 0 cap) 0 cap) : VR G w (.slice A 0 cap) (.sl o [])
  | sl (b off len cap s : Nat) (o : Own) (els : List AV) (f : Nat → Nat → Value) (hl : els.length = len) (hc : len ≤ cap) (hs : ∀ x ∈ els, x.cells.length = s)
      (h1 : ∀ i j, i < len → j < s → Stb G w b (off + i * s + j) (f i j)) (h2 : ∀ i j x y, els[i]? = some x → x.cells[j]? = some y → VR G w (f i j) y)
      (ho : OwnR G o (.slice (some ⟨b, off, none⟩) len cap) len cap) : VR G w (.slice (some ⟨b, off, none⟩) len cap) (.sl o els)
  | map0 : VR G w (.map none) (.map none)
  | map (id b : Nat) (h : G.ρ id = some b) : VR G w (.map (some b)) (.map (some id))
  | fn (f : Nat) (a b : Array Value) (c d : List AV) (ha : a.size = c.length) (hb : b.size = d.length)
      (h1 : ∀ (i : Nat) v x, a[i]? = some v → c[i]? = some x → VR G w v x) (h2 : ∀ (i : Nat) v x, b[i]? = some v → d[i]? = some x → VR G w v x) : VR G w (.func (.func f) a b) (.fn f c d)
  | nilFn : VR G w .nilFunc .nilFn
  | iface (t : Nat) (v : Value) (x : AV) (h : VR G w v x) : VR G w (.iface t v) (.iface t x)
  | nilIface : VR G w .nilIface .nilIface
  | agg (a : Array Value) (c : List AV) (ha : a.size = c.length) (h1 : ∀ (i : Nat) v x, a[i]? = some v → c[i]? = some x → VR G w v x) : VR G w (.agg a) (.agg c)
  | tup (a : Array Value) (c : List AV) (ha : a.size = c.length) (h1 : ∀ (i : Nat) v x, a[i]? = some v → c[i]? = some x → VR G w v x) : VR G w (.tuple a) (.tup c)

/-- Blocks that nothing writes: of the program's own variables. -/
structure KA0 where
  ka : List (Nat × (Option _root_.Go.Obj → Prop))
variable [Inhabited KA0]
def Kept [Inhabited KA0] (G : Gh) (w : World) : Prop := ∀ p ∈ (default : KA0).ka, p.2 w.heap[p.1]? ∧ p.1 < w.heap.size ∧ G.fr p.1 = none

/-- Rows of values. -/
def VRs (G : Gh) (w : World) (a : List Value) (c : List AV) : Prop := a.length = c.length ∧ ∀ (i : Nat) v x, a[i]? = some v → c[i]? = some x → VR G w v x

def ObjR (G : Gh) (w : World) : Option Obj → Option Go.Obj → Prop
  | some (.cells cs), some (.cells c _ fz) => fz = (0, 0) ∧ VRs G w c.toList cs
  | some (.map es), some (.map ents _) => ents.size = es.length ∧ ∀ (i : Nat) e k x, ents[i]? = some e → es[i]? = some (k, x) → VR G w e.key k ∧ VR G w e.val x
  | _, _ => False

structure Inv (G : Gh) (w : World) (h : H) : Prop where
  wf : ∀ id o, h.t.get id = some o → id < h.nx
  frb : ∀ b k, G.fr b = some k → G.base ≤ b ∧ b < w.heap.size
  bas : G.base ≤ w.heap.size
  obj : ∀ id b, G.ρ id = some b → id < h.nx ∧ G.fr b = some 0 ∧ G.ow b = some id ∧ ObjR G w (h.t.get id) w.heap[b]?
  chn : ∀ id n v, G.cv id = some (n, v) → id < h.nx ∧ ∃ g e size xs cap, h.t.get id = some (.chain n e size) ∧ v = .slice (some ⟨g, 0, none⟩) n cap ∧ w.ownsRow G.base e size v n xs ∧ G.fr g = some (n * size) ∧ G.ow g = some id ∧ 0 < size
  ka : Kept G w

/-- What comes later. -/
structure Ext (G : Gh) (w : World) (h : H) (G' : Gh) (w' : World) (h' : H) : Prop where
  os : w'.os = w.os
  tape : w'.tape = w.tape
  output : w'.output = w.output
  size : w.heap.size ≤ w'.heap.size
  base : G'.base = G.base
  still : ∀ b, b < w.heap.size → G.fr b = none → w'.heap[b]? = w.heap[b]? ∧ G'.fr b = none
  part : ∀ b k o v, G.fr b = some k → o < k → w.cell? ⟨b, o, none⟩ = some v → w'.cell? ⟨b, o, none⟩ = some v ∧ (G'.fr b = none ∨ ∃ k', G'.fr b = some k' ∧ o < k')
  ρ : ∀ id b, G.ρ id = some b → G'.ρ id = some b
  cv : ∀ id n v, G.cv id = some (n, v) → ∃ n' v', G'.cv id = some (n', v') ∧ n ≤ n' ∧ (n' = n → v' = v)
  nx : h.nx ≤ h'.nx
  unm : ∀ id, id < h.nx → G.ρ id = none → G.cv id = none → h'.t.get id = h.t.get id ∧ G'.ρ id = none ∧ G'.cv id = none
  own : ∀ b, b < w.heap.size → G.ow b = none → w'.heap[b]? = w.heap[b]? ∧ G'.fr b = G.fr b ∧ G'.ow b = none

theorem Ext.refl (G : Gh) (w : World) (h : H) : Ext G w h G w h :=
  ⟨rfl, rfl, rfl, Nat.le_refl _, rfl, fun _ _ h => ⟨rfl, h⟩, fun _ k _ _ h ho hv => ⟨hv, .inr ⟨k, h, ho⟩⟩, fun _ _ h => h, fun _ n v h => ⟨n, v, h, Nat.le_refl _, fun _ => rfl⟩, Nat.le_refl _, fun _ _ a b => ⟨rfl, a, b⟩, fun _ _ h => ⟨rfl, rfl, h⟩⟩

theorem Stb.lt {G : Gh} {w : World} {b o : Nat} {v : Value} (h : Stb G w b o v) : b < w.heap.size := World.block_lt_of_cell? w ⟨b, o, none⟩ h.1

section
variable {G G' G'' : Gh} {w w' w'' : World} {h h' h'' : H}
theorem Stb.mono (E : Ext G w h G' w' h') {b o : Nat} {v : Value} (s : Stb G w b o v) : Stb G' w' b o v := by
  rcases s.2 with hf | ⟨k, hf, ho⟩
  · obtain ⟨h1, h2⟩ := E.still b s.lt hf
    exact ⟨(World.cell?_of_block (w := w) (a := ⟨b, o, none⟩) h1).trans s.1, .inl h2⟩
  · exact E.part b k o v hf ho s.1
theorem Kept.mono (E : Ext G w h G' w' h') (K : Kept G w) : Kept G' w' := fun p hp => by
  obtain ⟨h1, h2, h3⟩ := K p hp
  obtain ⟨h4, h5⟩ := E.still p.1 h2 h3
  exact ⟨by rw [h4]; exact h1, Nat.lt_of_lt_of_le h2 E.size, h5⟩
theorem Ext.trans (E : Ext G w h G' w' h') (F : Ext G' w' h' G'' w'' h'') : Ext G w h G'' w'' h'' where
  os := F.os.trans E.os
  tape := F.tape.trans E.tape
  output := F.output.trans E.output
  size := Nat.le_trans E.size F.size
  base := F.base.trans E.base
  still := fun b hb hf => by
    obtain ⟨h1, h2⟩ := E.still b hb hf
    obtain ⟨h3, h4⟩ := F.still b (Nat.lt_of_lt_of_le hb E.size) h2
    exact ⟨h3.trans h1, h4⟩
  part := fun b k o v hf ho hv => by
    have hs : Stb G w b o v := ⟨hv, .inr ⟨k, hf, ho⟩⟩
    have h2 := (hs.mono E).mono F
    exact ⟨h2.1, h2.2⟩
  ρ := fun id b hr => F.ρ id b (E.ρ id b hr)
  cv := fun id n v hc => by
    obtain ⟨n1, v1, h1, h2, h3⟩ := E.cv id n v hc
    obtain ⟨n2, v2, h4, h5, h6⟩ := F.cv id n1 v1 h1
    refine ⟨n2, v2, h4, Nat.le_trans h2 h5, fun e => ?_⟩
    have e1 : n1 = n := by omega
    have e2 : n2 = n1 := by omega
    rw [h6 e2, h3 e1]
  nx := Nat.le_trans E.nx F.nx
  unm := fun id hi hr hc => by
    obtain ⟨h1, h2, h3⟩ := E.unm id hi hr hc
    obtain ⟨h4, h5, h6⟩ := F.unm id (Nat.lt_of_lt_of_le hi E.nx) h2 h3
    exact ⟨h4.trans h1, h5, h6⟩
  own := fun b hb ho => by
    obtain ⟨h1, h2, h3⟩ := E.own b hb ho
    obtain ⟨h4, h5, h6⟩ := F.own b (Nat.lt_of_lt_of_le hb E.size) h3
    exact ⟨h4.trans h1, h5.trans h2, h6⟩

theorem OwnR.mono (E : Ext G w h G' w' h') {o : Own} {v : Value} {len cap : Nat} (r : OwnR G o v len cap) : OwnR G' o v len cap := by
  cases o with
  | no => trivial
  | full => exact r
  | ch id =>
    obtain ⟨n, v', h1, h2, h3⟩ := r
    obtain ⟨n1, v1, h4, h5, h6⟩ := E.cv id n v' h1
    refine ⟨n1, v1, h4, Nat.le_trans h2 h5, fun e => ?_⟩
    have e1 : n1 = n := by omega
    rw [h6 e1, h3 (by omega)]
theorem VR.mono (E : Ext G w h G' w' h') {v : Value} {x : AV} (r : VR G w v x) : VR G' w' v x := by
  induction r with
  | bool b => exact .bool b
  | int k n => exact .int k n
  | str s => exact .str s
  | ptr0 => exact .ptr0
  | ptr id b off h => exact .ptr id b off (E.ρ _ _ h)
  | vp b off cs f h1 h2 ih => exact .vp b off cs f (fun j hj => (h1 j hj).mono E) ih
  | sl0 A cap o hn h => exact .sl0 A cap o hn (h.mono E)
  | sl b off len cap s o els f hl hc hs h1 h2 ho ih => exact .sl b off len cap s o els f hl hc hs (fun i j hi hj => (h1 i j hi hj).mono E) ih (ho.mono E)
  | map0 => exact .map0
  | map id b h => exact .map id b (E.ρ _ _ h)
  | fn f a b c d ha hb h1 h2 i1 i2 => exact .fn f a b c d ha hb i1 i2
  | nilFn => exact .nilFn
  | iface t v x h ih => exact .iface t v x ih
  | nilIface => exact .nilIface
  | agg a c ha h1 ih => exact .agg a c ha ih
  | tup a c ha h1 ih => exact .tup a c ha ih
theorem VRs.mono (E : Ext G w h G' w' h') {a : List Value} {c : List AV} (r : VRs G w a c) : VRs G' w' a c := ⟨r.1, fun i v x h1 h2 => (r.2 i v x h1 h2).mono E⟩
theorem ObjR.mono (E : Ext G w h G' w' h') {o : Option Obj} {p : Option Go.Obj} (r : ObjR G w o p) : ObjR G' w' o p := by
  match o, p, r with
  | some (.cells cs), some (.cells c _ fz), r => exact ⟨r.1, r.2.mono E⟩
  | some (.map es), some (.map ents _), r => exact ⟨r.1, fun i e k x h1 h2 => ⟨(r.2 i e k x h1 h2).1.mono E, (r.2 i e k x h1 h2).2.mono E⟩⟩
end

theorem VRs.nil (G : Gh) (w : World) : VRs G w [] [] := ⟨rfl, fun i v x h => by simp at h⟩
theorem VRs.cons {G : Gh} {w : World} {v : Value} {x : AV} {a : List Value} {c : List AV} (h : VR G w v x) (r : VRs G w a c) : VRs G w (v :: a) (x :: c) := by
  refine ⟨by simp [r.1], fun i u y hu hy => ?_⟩
  cases i with
  | zero => simp at hu hy; subst hu; subst hy; exact h
  | succ i => simp at hu hy; exact r.2 i u y hu hy
theorem VRs.uncons {G : Gh} {w : World} {a : List Value} {x : AV} {c : List AV} (r : VRs G w a (x :: c)) : ∃ v b, a = v :: b ∧ VR G w v x ∧ VRs G w b c := by
  cases a with
  | nil => have := r.1; simp at this
  | cons v b => exact ⟨v, b, rfl, r.2 0 v x rfl rfl, by have := r.1; simpa using this, fun i u y hu hy => r.2 (i + 1) u y (by simpa using hu) (by simpa using hy)⟩
theorem VRs.append {G : Gh} {w : World} {a b : List Value} {c d : List AV} (h : VRs G w a c) (k : VRs G w b d) : VRs G w (a ++ b) (c ++ d) := by
  refine ⟨by simp [h.1, k.1], fun i u y hu hy => ?_⟩
  rcases Nat.lt_or_ge i a.length with hi | hi
  · rw [List.getElem?_append_left hi] at hu
    rw [List.getElem?_append_left (by rw [← h.1]; exact hi)] at hy
    exact h.2 i u y hu hy
  · rw [List.getElem?_append_right hi] at hu
    rw [List.getElem?_append_right (by rw [← h.1]; exact hi), ← h.1] at hy
    exact k.2 _ u y hu hy

/-- A value's cells. -/
theorem VR.cells {G : Gh} {w : World} {v : Value} {x : AV} (r : VR G w v x) : VRs G w v.cells.toList x.cells := by
  have one : ∀ {u : Value} {y : AV}, VR G w u y → VRs G w [u] [y] := fun h => .cons h (.nil G w)
  cases r with
  | agg a c ha h1 => exact ⟨by simpa [Value.cells, AV.cells] using ha, fun i v x hv hx => h1 i v x (by simpa [Value.cells] using hv) hx⟩
  | _ => exact one (by first | assumption | constructor <;> assumption)
theorem VR.one {G : Gh} {w : World} {v : Value} {x : AV} (r : VR G w v x) (h : x.one = true) : v.oneCell' = true := by
  cases r <;> simp_all [AV.one, Value.oneCell']

end Go.Ev
