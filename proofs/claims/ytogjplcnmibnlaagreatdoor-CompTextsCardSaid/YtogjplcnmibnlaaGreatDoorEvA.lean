/- An abstract machine over the model's own code: values, heap, operations. Nothing here is about one program. -/
import Derived.Orders
import Derived.LoopN
import Derived.Laws.AppendOwn
import Derived.Below
set_option autoImplicit false
namespace Go.Ev
inductive T (α:Type) where
 | e
 | n (o:Option α) (l r:T α)
namespace T
variable {α:Type}
def get:T α→Nat→Option α
 | .e,_=>none
 | .n o _ _,0=>o
 | .n _ l r,k+1=>bif Nat.beq (Nat.mod k 2) 0 then l.get (Nat.div k 2)else r.get (Nat.div k 2)
def put:Nat→T α→Nat→α→T α
 | 0,t,_,_=>t
 | _+1,.e,0,v => .n (some v) .e .e
 | f+1,.e,k+1,v=>bif Nat.beq (Nat.mod k 2) 0 then .n none (put f .e (Nat.div k 2) v) .e else .n none .e (put f .e (Nat.div k 2) v)
 | _+1,.n _ l r,0,v => .n (some v) l r
 | f+1,.n o l r,k+1,v=>bif Nat.beq (Nat.mod k 2) 0 then .n o (put f l (Nat.div k 2) v) r else .n o l (put f r (Nat.div k 2) v)
def set (t:T α) (k:Nat) (v:α):T α:=put (k+1) t k v
end T
class MT where
 mt:Nat→Bool
instance (priority:=low) mtNone:MT:=⟨fun _=>false⟩
inductive Own where
 | no
 | full
 | ch (id:Nat)
inductive AV where
 | bool (b:Bool)
 | int (k:IntKind) (n:Int)
 | str (s:List Nat)
 | ptr (a:Option (Nat × Nat))
 | vp (cs:List AV)
 | sl (o:Own) (els:List AV)
 | map (r:Option Nat)
 | fn (f:Nat) (first captured:List AV)
 | nilFn
 | iface (t:Nat) (v:AV)
 | nilIface
 | agg (cs:List AV)
 | tup (vs:List AV)
 | rs (id len:Nat) (own:Bool)
 | rp (id len off:Nat)
 | rv (id len k:Nat)
instance:Inhabited AV:=⟨.tup []⟩
def AV.cells:AV→List AV
 | .agg cs=>cs
 | v=>[v]
def AV.one:AV→Bool
 | .agg _=>false
 | .tup _=>false
 | _=>true
def Own.beq:Own→Own→Bool
 | .no,.no=>true
 | .full,.full=>true
 | .ch a,.ch b=>Nat.beq a b
 | _,_=>false
def bK:IntKind→IntKind→Bool
 | .i8,.i8 | .i16,.i16 | .i32,.i32 | .i64,.i64 | .u8,.u8 | .u16,.u16 | .u32,.u32 | .u64,.u64=>true
 | _,_=>false
def aE:Int→Int→Bool
 | .ofNat a,.ofNat b=>Nat.beq a b
 | .negSucc a,.negSucc b=>Nat.beq a b
 | _,_=>false
def aB:List Nat→List Nat→Bool
 | [],[]=>true
 | a::l,b::m=>Nat.beq a b&&aB l m
 | _,_=>false
def optNatBeq:Option Nat→Option Nat→Bool
 | none,none=>true
 | some a,some b=>Nat.beq a b
 | _,_=>false
def optPairBeq:Option (Nat × Nat)→Option (Nat × Nat)→Bool
 | none,none=>true
 | some (a,b),some (c,d)=>Nat.beq a c&&Nat.beq b d
 | _,_=>false
mutual
def AV.beq:AV→AV→Bool
 | .bool a,.bool b=>a==b
 | .int k a,.int j b=>bK k j&&aE a b
 | .str a,.str b=>aB a b
 | .ptr a,.ptr b=>optPairBeq a b
 | .vp a,.vp b=>AV.beqs a b
 | .sl o a,.sl p b=>o.beq p&&AV.beqs a b
 | .map a,.map b=>optNatBeq a b
 | .fn f a b,.fn g c d=>Nat.beq f g&&(AV.beqs a c&&AV.beqs b d)
 | .nilFn,.nilFn=>true
 | .iface t a,.iface u b=>Nat.beq t u&&AV.beq a b
 | .nilIface,.nilIface=>true
 | .agg a,.agg b=>AV.beqs a b
 | .tup a,.tup b=>AV.beqs a b
 | .rs a b c,.rs d e f=>Nat.beq a d&&(Nat.beq b e&&c==f)
 | .rp a b c,.rp d e f=>Nat.beq a d&&(Nat.beq b e&&Nat.beq c f)
 | .rv a b c,.rv d e f=>Nat.beq a d&&(Nat.beq b e&&Nat.beq c f)
 | _,_=>false
def AV.beqs:List AV→List AV→Bool
 | [],[]=>true
 | a::l,b::m=>AV.beq a b&&AV.beqs l m
 | _,_=>false
end
def bytesOf (s:ByteArray):List Nat:=s.data.toList.map (·.toNat)
def aR:Value→Option AV
 | .bool b=>some (.bool b)
 | .int k n=>some (.int k n)
 | .string s=>some (.str (bytesOf s))
 | .pointer none=>some (.ptr none)
 | .slice none 0 0=>some (.sl .full [])
 | .map none=>some (.map none)
 | .nilFunc=>some .nilFn
 | .nilIface=>some .nilIface
 | _=>none
def all0 {α β:Type} (f:α→Option β):List α→Option (List β)
 | []=>some []
 | a::l=>match f a with
  | none=>none
  | some b=>match all0 f l with
   | none=>none
   | some m=>some (b::m)
def bJ:Value→Option AV
 | .agg cs=>(all0 aR cs.toList).map .agg
 | .tuple vs=>(all0 aR vs.toList).map .tup
 | v=>aR v
inductive TK where
 | st (fs:List (Nat × Nat × Bool))
 | ar (n elem:Nat)
 | sl (elem:Nat)
 | mp (key elem:Nat)
 | str
 | int (k:IntKind)
 | bool
 | ptr (elem:Nat)
 | iface
 | fn
 | tup
 | other
structure TyI where
 kind:TK
 sz:Nat
 byt:Nat
 zero:Option AV
 ag:Bool
 eqf:Option (List (Nat × Nat))
def isAggD:TypeDesc→Bool
 | .struct _=>true
 | .array _ _=>true
 | _=>false
def fieldOf (P:Program) (f:Field):Option (Nat × Nat × Bool):=
 match P.info? f.type,P.underlying f.type with
 | some i,some d=>some (f.offset,i.size,isAggD d)
 | _,_=>none
def kindOf (P:Program):TypeDesc→TK
 | .struct fs=>match all0 (fieldOf P) fs.toList with
  | some l => .st l
  | none => .other
 | .array n e => .ar n e
 | .slice e => .sl e
 | .map k e => .mp k e
 | .string => .str
 | .int k => .int k
 | .bool => .bool
 | .pointer e => .ptr e
 | .interface _ => .iface
 | .func _ _ _ => .fn
 | .tuple _ => .tup
 | _ => .other
def eqField (P:Program) (f:Field):Option (Nat × Nat):=
 match f.name == "_",P.info? f.type,P.underlying f.type with
 | false,some i,some (.int _)=>bif Nat.beq i.size 1 then some (f.offset,0)else none
 | false,some i,some .string=>bif Nat.beq i.size 1 then some (f.offset,1)else none
 | false,some i,some .bool=>bif Nat.beq i.size 1 then some (f.offset,2)else none
 | _,_,_=>none
def eqFlat (P:Program) (t:Nat):Option (List (Nat × Nat)):=
 match P.underlying t with
 | some (.struct fs)=>match P.stoodInHeld t,P.eqGuardType P.depth t with
  | false,false=>all0 (eqField P) fs.toList
  | _,_=>none
 | _=>none
def tyOf (P:Program) (t:Nat):Option TyI:=
 match P.info? t,P.underlying t with
 | some i,some d=>some ⟨kindOf P d,i.size,i.bytes,i.zero.bind bJ,isAggD d,eqFlat P t⟩
 | _,_=>none
inductive Obj where
 | cells (cs:List AV)
 | map (es:List (AV × AV))
 | chain (n e s:Nat)
 | row (n e s:Nat) (cs:List AV)
structure H where
 t:T Obj
 nx:Nat
def H.new (h:H) (o:Obj):H:=⟨h.t.set h.nx o,h.nx+1⟩
def H.put (h:H) (id:Nat) (o:Obj):H:=⟨h.t.set id o,h.nx⟩
abbrev Tm:=T AV
def val (tm:Tm):Operand→Option AV
 | .tmp t=>tm.get t
 | .const v=>bJ v
 | .func f=>some (.fn f [] [])
 | .global _=>none
def i64lo (n:Int):Bool:=
 match n with
 | .ofNat m=>Nat.blt m 9223372036854775808
 | .negSucc m=>Nat.blt m 9223372036854775808
def wr (k:IntKind) (n:Int):Int:=
 match k with
 | .i64=>bif i64lo n then n else IntKind.wrap .i64 n
 | k=>IntKind.wrap k n
def ltI:Int→Int→Bool
 | .ofNat a,.ofNat b=>Nat.blt a b
 | .ofNat _,.negSucc _=>false
 | .negSucc _,.ofNat _=>true
 | .negSucc a,.negSucc b=>Nat.blt b a
def cO:List Nat→List Nat→Bool
 | _,[]=>false
 | [],_::_=>true
 | a::x,b::y=>Nat.blt a b||(Nat.beq a b&&cO x y)
def bP (op:BinOp) (k:IntKind) (x y:Int):Option AV:=
 match op with
 | .add=>some (.int k (wr k (Int.add x y)))
 | .sub=>some (.int k (wr k (Int.sub x y)))
 | .mul=>some (.int k (wr k (Int.mul x y)))
 | .eql=>some (.bool (aE x y))
 | .neq=>some (.bool (!aE x y))
 | .lss=>some (.bool (ltI x y))
 | .leq=>some (.bool (!ltI y x))
 | .gtr=>some (.bool (ltI y x))
 | .geq=>some (.bool (!ltI x y))
 | .quo=>bif aE y 0 then none else some (.int k (wr k (Int.tdiv x y)))
 | .rem=>bif aE y 0 then none else some (.int k (Int.tmod x y))
 | .and=>some (.int k (wr k (Int.ofNat (BitVec.toNat (BitVec.ofInt k.bits x &&& BitVec.ofInt k.bits y)))))
 | .or=>some (.int k (wr k (Int.ofNat (BitVec.toNat (BitVec.ofInt k.bits x ||| BitVec.ofInt k.bits y)))))
 | .xor=>some (.int k (wr k (Int.ofNat (BitVec.toNat (BitVec.ofInt k.bits x ^^^ BitVec.ofInt k.bits y)))))
 | _=>none
def evShift (op:BinOp) (k:IntKind) (x y:Int):Option AV:=
 match op,y with
 | .shl,.ofNat n=>some (.int k (wr k (Int.mul x (Int.ofNat (2 ^ (min n k.bits))))))
 | .shr,.ofNat n=>some (.int k (Int.fdiv x (Int.ofNat (2 ^ (min n k.bits)))))
 | _,_=>none
def cP (op:BinOp) (x y:List Nat):Option AV:=
 match op with
 | .add=>bif Nat.ble (x.length+y.length) 140737488355328 then some (.str (x++y))else none
 | .eql=>some (.bool (aB x y))
 | .neq=>some (.bool (!aB x y))
 | .lss=>some (.bool (cO x y))
 | .leq=>some (.bool (cO x y||aB x y))
 | .gtr=>some (.bool (!(cO x y||aB x y)))
 | .geq=>some (.bool (!cO x y))
 | _=>none
def evEq (k:TK) (x y:AV):Option Bool:=
 match k,x,y with
 | .bool,.bool a,.bool b=>some (a==b)
 | .ptr _,.ptr none,.ptr b=>some b.isNone
 | .ptr _,.ptr (some _),.ptr none=>some false
 | .iface,.iface _ _,.nilIface=>some false
 | .iface,.nilIface,.iface _ _=>some false
 | _,_,_=>none
def cellEq (c:Nat) (x y:AV):Option Bool:=
 match c,x,y with
 | 0,.int k a,.int j b=>bif bK k j then some (aE a b)else none
 | 1,.str a,.str b=>some (aB a b)
 | 2,.bool a,.bool b=>some (a==b)
 | _,_,_=>none
def evFlat:List (Nat × Nat)→List AV→List AV→Option Bool
 | [],_,_=>some true
 | (off,c)::r,a,b=>match a[off]?,b[off]? with
  | some x,some y=>match cellEq c x y with
   | none=>none
   | some false=>some false
   | some true=>evFlat r a b
  | _,_=>none
def aP:BinOp→Bool
 | .shl | .shr=>true
 | _=>false
def bN (ty:Nat→Option TyI) (op:BinOp) (t:Nat) (x y:AV):Option AV:=
 match x,y with
 | .int k a,.int j b=>bif aP op then evShift op k a b else bif bK k j then bP op k a b else none
 | .str a,.str b=>cP op a b
 | .agg a,.agg b=>match ty t with
  | none=>none
  | some i=>match i.eqf with
   | none=>none
   | some l=>match op with
    | .eql=>(evFlat l a b).map .bool
    | .neq=>(evFlat l a b).map fun r => .bool (!r)
    | _=>none
 | x,y=>match ty t with
  | none=>none
  | some i=>match op with
   | .eql=>(evEq i.kind x y).map .bool
   | .neq=>(evEq i.kind x y).map fun b => .bool (!b)
   | _=>none
def isConst:Operand→Bool
 | .const _=>true
 | _=>false
def aU (x y:Operand) (a b:AV):Bool:=
 match a,b with
 | .nilIface,.nilIface=>isConst x||isConst y
 | _,_=>false
def evNil (ty:Nat→Option TyI) (op:BinOp) (t:Nat):Option AV:=
 match ty t with
 | some ⟨.iface,_,_,_,_,_⟩=>match op with
  | .eql=>some (.bool true)
  | .neq=>some (.bool false)
  | _=>none
 | _=>none
def aY:List AV→Nat→List AV→List AV
 | cs,0,[]=>cs
 | [],_,_=>[]
 | _::l,0,v::vs=>v::aY l 0 vs
 | c::l,k+1,vs=>c::aY l k vs
def cT (fs:List (Nat × Nat × Bool)):List AV→List (Nat × AV)→Option (List AV)
 | cs,[]=>some cs
 | cs,(i,v)::r=>match fs[i]? with
  | none=>none
  | some (off,sz,_)=>
   bif Nat.beq v.cells.length sz&&Nat.ble (off+sz) cs.length then cT fs (aY cs off v.cells) r else none
def aH (tm:Tm):List Operand→Option (List AV)
 | []=>some []
 | x::l=>match val tm x with
  | none=>none
  | some v=>match aH tm l with
   | none=>none
   | some m=>some (v::m)
def aO:Nat→List (Nat × Operand)→Bool
 | _,[]=>true
 | n,(i,_)::l=>Nat.beq i n&&aO (n+1) l
def aM (s:Nat):List AV→Bool
 | []=>true
 | v::l=>Nat.beq v.cells.length s&&aM s l
def bB:List AV→Bool
 | []=>true
 | v::l=>v.one&&bB l
def bY:List AV→Bool
 | []=>true
 | v::l=>bB v.cells&&bY l
def aV (ag:Bool) (sz:Nat) (cs:List AV) (off:Nat):Option AV:=
 bif ag then bif Nat.ble (off+sz) cs.length then some (.agg ((cs.drop off).take sz))else none
 else cs[off]?
def keyOk (ty:Nat→Option TyI) (k:TK) (v:AV):Bool:=
 match k,v with
 | .int j,.int k _=>bK j k
 | .str,.str _=>true
 | .ptr e,.ptr (some _)=>match ty e with
  | some i=>Nat.blt 0 i.sz
  | none=>false
 | _,_=>false
def keyCmp:AV→AV→Option Bool
 | .int k a,.int j b=>bif bK k j then some (aE a b)else none
 | .str a,.str b=>some (aB a b)
 | .ptr (some (a,i)),.ptr (some (b,j))=>some (Nat.beq a b&&Nat.beq i j)
 | _,_=>none
def mapGet (k:AV):List (AV × AV)→Option (Option AV)
 | []=>some none
 | (j,v)::l=>match keyCmp k j with
  | none=>none
  | some true=>some (some v)
  | some false=>mapGet k l
def mapPut (k v:AV):List (AV × AV)→Option (List (AV × AV))
 | []=>some [(k,v)]
 | (j,u)::l=>match keyCmp k j with
  | none=>none
  | some true=>some ((k,v)::l)
  | some false=>match mapPut k v l with
   | none=>none
   | some m=>some ((j,u)::m)
def dE:Option AV→Option (Option Nat)
 | none=>some none
 | some (.int .i64 (.ofNat n))=>some (some n)
 | _=>none
def cD (tm:Tm):Option Operand→Option (Option AV)
 | none=>some none
 | some x=>(val tm x).map some
def bW (x:AV) (lo hi mx:Option Nat):Option AV:=
 match x with
 | .str s=>
  let h:=hi.getD s.length
  let l:=lo.getD 0
  match mx with
  | some _=>none
  | none=>bif Nat.ble l h&&Nat.ble h s.length then some (.str ((s.drop l).take (h-l)))else none
 | .sl o els=>
  let h:=hi.getD els.length
  let l:=lo.getD 0
  match mx with
  | some m=>match hi with
   | none=>none
   | some _=>bif Nat.ble l h&&(Nat.ble h m&&Nat.ble m els.length)then some (.sl (bif Nat.beq h m then .full else .no) ((els.drop l).take (h-l)))else none
  | none=>bif Nat.ble l h&&Nat.ble h els.length then
    some (.sl (bif Nat.beq h els.length then(match o with | .full => .full | .ch id=>(bif Nat.beq l 0 then .ch id else .no) | .no => .no)else .no) ((els.drop l).take (h-l)))
   else none
 | _=>none
def bG (e sz byt:Nat) (h:H) (x:AV) (ys:List AV):Option (AV × H):=
 match x with
 | .sl o els=>
  bif Nat.blt 0 sz&&(Nat.blt 0 byt&&(aM sz ys&&(bY ys&&(aM sz els&&Nat.ble ((els.length+ys.length)*byt) 140737488355328))))then
   match ys with
   | []=>some (.sl o els,h)
   | _::_=>match o with
    | .no=>none
    | .full=>some (.sl (.ch h.nx) (els++ys),h.new (.chain (els.length+ys.length) e sz))
    | .ch id=>match h.t.get id with
     | some (.chain n e' s')=>bif Nat.beq n els.length&&(Nat.beq e' e&&Nat.beq s' sz)then some (.sl (.ch id) (els++ys),h.put id (.chain (els.length+ys.length) e sz))else none
     | _=>none
  else none
 | _=>none
def eO (sz:Nat) (h:H) (y:AV):Option (Nat × List AV):=
 match y with
 | .sl _ ys=>bif aM sz ys&&bY ys then some (ys.length,ys.flatMap AV.cells)else none
 | .rs id len _=>match h.t.get id with
  | some (.row n _ s cs)=>bif Nat.beq n len&&(Nat.beq s sz&&bB cs)then some (len,cs)else none
  | _=>none
 | .rv id len k=>match h.t.get id with
  | some (.row n _ s cs)=>bif Nat.beq n len&&(Nat.beq s sz&&bB (cs.take (k*s)))then some (k,cs.take (k*s))else none
  | _=>none
 | _=>none
def eQ (e sz byt:Nat) (h:H) (x y:AV):Option (AV × H):=
 match eO sz h y with
 | none=>none
 | some (k,ys)=>bif Nat.blt 0 sz&&(Nat.blt 0 byt&&Nat.beq ys.length (k*sz))then match x with
  | .sl .full []=>bif Nat.beq k 0 then some (.sl .full [],h)else bif Nat.ble (k*byt) 140737488355328 then some (.rs h.nx k true,h.new (.row k e sz ys))else none
  | .rs id len true=>match h.t.get id with
   | some (.row n e' s cs)=>bif Nat.beq n len&&(Nat.beq e' e&&(Nat.beq s sz&&Nat.ble ((len+k)*byt) 140737488355328))then
     bif Nat.beq k 0 then some (.rs id len true,h)else some (.rs id (len+k) true,h.put id (.row (len+k) e sz (cs++ys)))
    else none
   | _=>none
  | .rv id len k'=>match h.t.get id with
   | some (.row n e' s cs)=>bif Nat.beq n len&&(Nat.beq e' e&&(Nat.beq s sz&&Nat.ble ((len+k)*byt) 140737488355328))then
     bif Nat.beq len k' then(bif Nat.beq k 0 then some (.rs id len true,h)else some (.rs id (len+k) true,h.put id (.row (len+k) e sz (cs++ys))))
     else bif Nat.blt 0 k&&Nat.ble (k'+k) len then some (.rv id len (k'+k),h.put id (.row n e sz (aY cs (k'*sz) ys)))else none
    else none
   | _=>none
  | _=>none
  else none
def byteEls:List AV→Option (List Nat)
 | []=>some []
 | .int .u8 (.ofNat n)::l=>match byteEls l with
  | none=>none
  | some m=>bif Nat.blt n 256 then some (n::m)else none
 | _::_=>none
def aN (ty:Nat→Option TyI) (tm:Tm) (o:Op):Option AV:=
 match o with
 | .move x=>val tm x
 | .assign x=>val tm x
 | .pick c a b=>match val tm c with
  | some (.bool t)=>bif t then val tm a else val tm b
  | _=>none
 | .build t parts=>match ty t with
  | some ⟨.st fs,_,_,some z,_,_⟩=>match aH tm (parts.toList.map (·.2))with
   | some vs=>(cT fs z.cells ((parts.toList.map (·.1)).zip vs)).map .agg
   | none=>none
  | _=>none
 | .buildSlice t len parts=>match ty t with
  | some ⟨.sl e,_,_,_,_,_⟩=>match ty e with
   | some ⟨_,sz,_,some z,_,_⟩=>match aH tm (parts.toList.map (·.2))with
    | some vs=>
     bif aO 0 parts.toList&&(Nat.beq vs.length len&&(aM sz vs&&(Nat.blt 0 sz&&(Nat.beq z.cells.length sz&&Nat.ble (len*sz) 16777216))))then some (.sl .full vs)
     else none
    | none=>none
   | _=>none
  | _=>none
 | .nilCheck x=>match val tm x with
  | some (.ptr (some a))=>some (.ptr (some a))
  | some (.vp cs)=>some (.vp cs)
  | some (.rp id n off)=>some (.rp id n off)
  | some (.fn f a b)=>some (.fn f a b)
  | _=>none
 | .binOp op t x y _=>match val tm x,val tm y with
  | some a,some b=>bif aU x y a b then evNil ty op t else bN ty op t a b
  | _,_=>none
 | .unOp op _ x=>match op,val tm x with
  | .not,some (.bool b)=>some (.bool (!b))
  | .neg,some (.int k n)=>some (.int k (wr k (Int.sub 0 n)))
  | _,_=>none
 | .convert s d x=>match ty s,ty d,val tm x with
  | some ⟨.int _,_,_,_,_,_⟩,some ⟨.int k,_,_,_,_,_⟩,some (.int _ n)=>some (.int k (wr k n))
  | some ⟨.str,_,_,_,_,_⟩,some ⟨.str,_,_,_,_,_⟩,some (.str b)=>some (.str b)
  | some ⟨.str,_,_,_,_,_⟩,some ⟨.sl e,_,_,_,_,_⟩,some (.str b)=>match ty e with
   | some ⟨.int .u8,_,_,_,_,_⟩=>bif Nat.ble b.length 140737488355328 then some (.sl .no (b.map fun n => .int .u8 (Int.ofNat n)))else none
   | _=>none
  | some ⟨.sl e,_,_,_,_,_⟩,some ⟨.str,_,_,_,_,_⟩,some (.sl _ els)=>match ty e with
   | some ⟨.int .u8,_,_,_,_,_⟩=>(byteEls els).map .str
   | _=>none
  | _,_,_=>none
 | .makeInterface t x=>match ty t,val tm x with
  | some ⟨.iface,_,_,_,_,_⟩,_=>none
  | some _,some v=>some (.iface t v)
  | _,_=>none
 | .makeFunc fn first captured=>match fn,aH tm first.toList,aH tm captured.toList with
  | .func f,some a,some b=>some (.fn f a b)
  | _,_,_=>none
 | .fieldAddr s x f=>match ty s with
  | some ⟨.st fs,_,_,_,_,_⟩=>match fs[f]? with
   | some (off,sz,_)=>bif Nat.beq sz 0 then none else match val tm x with
    | some (.ptr (some (id,o)))=>some (.ptr (some (id,o+off)))
    | some (.vp cs)=>some (.vp (cs.drop off))
    | some (.rp id n o)=>some (.rp id n (o+off))
    | _=>none
   | none=>none
  | _=>none
 | .field t x f=>match ty t,val tm x with
  | some ⟨.st fs,_,_,_,_,_⟩,some (.agg cs)=>match fs[f]? with
   | some (off,sz,ag)=>aV ag sz cs off
   | none=>none
  | _,_=>none
 | .indexAddr t x i=>match ty t with
  | some ⟨.sl e,_,_,_,_,_⟩=>match ty e,val tm x,val tm i with
   | some ie,some (.sl _ els),some (.int _ (.ofNat n))=>match els[n]? with
    | some v=>bif Nat.beq v.cells.length ie.sz then some (.vp v.cells)else none
    | none=>none
   | some ie,some (.rs id len _),some (.int _ (.ofNat n))=>bif Nat.blt n len then some (.rp id len (n*ie.sz))else none
   | some ie,some (.rv id len k),some (.int _ (.ofNat n))=>bif Nat.blt n k then some (.rp id len (n*ie.sz))else none
   | _,_,_=>none
  | _=>none
 | .index t x i=>match ty t with
  | some ⟨.str,_,_,_,_,_⟩=>match val tm x,val tm i with
   | some (.str s),some (.int _ (.ofNat n))=>match s[n]? with
    | some b=>some (.int .u8 (Int.ofNat b))
    | none=>none
   | _,_=>none
  | _=>none
 | .extract x i=>match val tm x with
  | some (.tup vs)=>vs[i]?
  | _=>none
 | .slice t x lo hi mx=>match ty t,val tm x,cD tm lo,cD tm hi,cD tm mx with
  | some i,some v,some l,some hh,some m=>match i.kind,v,dE l,dE hh,dE m with
   | .str,.str s,some l,some hh,some m=>bW (.str s) l hh m
   | .sl e,.sl o els,some l,some hh,some m=>match ty e with
    | some ie=>bif aM ie.sz els then bW (.sl o els) l hh m else none
    | none=>none
   | .sl e,.rs id len own,some l,some hh,some m=>match ty e with
    | none=>none
    | some _=>bif Nat.beq (l.getD 0) 0&&(Nat.beq (hh.getD len) len&&(Nat.beq (m.getD len) len&&(m.isNone||hh.isSome)))then some (.rs id len (own&&m.isNone))else bif own&&(Nat.beq (l.getD 0) 0&&(Nat.ble (hh.getD len) len&&m.isNone))then some (.rv id len (hh.getD len))else none
   | .sl e,.rv id len k,some l,some hh,some m=>match ty e with
    | none=>none
    | some _=>bif Nat.beq (l.getD 0) 0&&(Nat.ble (hh.getD k) k&&m.isNone)then some (.rv id len (hh.getD k))else none
   | _,_,_,_,_=>none
  | _,_,_,_,_=>none
 | _=>none
def eI (mx:Bool) (vs:Option (List AV)):Option AV:=
 match vs with
 | some [.int k x,.int j y]=>bif bK k j then some (.int k (bif (bif mx then ltI x y else ltI y x)then y else x))else none
 | _=>none
def aQ (ty:Nat→Option TyI) (tm:Tm) (h:H) (o:Op):Option AV:=
 match o with
 | .load t a=>match ty t,val tm a with
  | some i,some (.vp cs)=>aV i.ag i.sz cs 0
  | some i,some (.ptr (some (id,off)))=>match h.t.get id with
   | some (.cells cs)=>aV i.ag i.sz cs off
   | _=>none
  | some i,some (.rp id len off)=>match h.t.get id with
   | some (.row n _ _ cs)=>bif Nat.beq n len then aV i.ag i.sz cs off else none
   | _=>none
  | _,_=>none
 | .lookup t m k ok=>match ty t with
  | some ⟨.mp kt et,_,_,_,_,_⟩=>match ty kt,ty et,val tm k with
   | some ik,some ⟨_,_,_,some z,_,_⟩,some key=>
    bif keyOk ty ik.kind key then match val tm m with
     | some (.map none)=>some (bif ok then .tup [z,.bool false]else z)
     | some (.map (some id))=>match h.t.get id with
      | some (.map es)=>match mapGet key es with
       | none=>none
       | some (some v)=>some (bif ok then .tup [v,.bool true]else v)
       | some none=>some (bif ok then .tup [z,.bool false]else z)
      | _=>none
     | _=>none
    else none
   | _,_,_=>none
  | _=>none
 | .call c=>match c.callee with
  | .builtin .len=>match c.argTypes.toList,aH tm c.args.toList with
   | [t],some [x]=>match ty t with
    | none=>none
    | some i=>match i.kind,x with
     | .str,.str s=>some (.int .i64 (Int.ofNat s.length))
     | .sl _,.sl _ els=>some (.int .i64 (Int.ofNat els.length))
     | .sl _,.rs _ len _=>some (.int .i64 (Int.ofNat len))
     | .sl _,.rv _ _ k=>some (.int .i64 (Int.ofNat k))
     | .mp _ _,.map none=>some (.int .i64 0)
     | .mp _ _,.map (some r)=>match h.t.get r with
      | some (.map es)=>some (.int .i64 (Int.ofNat es.length))
      | _=>none
     | _,_=>none
   | _,_=>none
  | .builtin .min=>eI false (aH tm c.args.toList)
  | .builtin .max=>eI true (aH tm c.args.toList)
  | _=>none
 | _=>none
def zeros (z:List AV):Nat→List AV
 | 0=>[]
 | n+1=>z++zeros z n
def bX (ty:Nat→Option TyI) (tm:Tm) (o:Op):Option (Obj × (Nat→AV)):=
 match o with
 | .alloc t=>match ty t with
  | some ⟨_,_,_,some z,_,_⟩=>some (.cells z.cells,fun n => .ptr (some (n,0)))
  | _=>none
 | .box _ x=>match val tm x with
  | some v=>some (.cells v.cells,fun n => .ptr (some (n,0)))
  | none=>none
 | .makeMap _ r=>match r with
  | none=>some (.map [],fun n => .map (some n))
  | some _=>none
 | .buildSlice t len parts=>match ty t with
  | some ⟨.sl e,_,_,_,_,_⟩=>match ty e with
   | some ⟨_,sz,_,some z,_,_⟩=>match aH tm (parts.toList.map (·.2))with
    | some vs=>
     bif aO 0 parts.toList&&(Nat.beq vs.length len&&(aM sz vs&&(bY vs&&(Nat.blt 0 sz&&(Nat.beq z.cells.length sz&&Nat.ble (len*sz) 16777216)))))then some (.row len e sz (vs.flatMap AV.cells),fun n => .rs n len true)
     else none
    | none=>none
   | _=>none
  | _=>none
 | .makeSlice t l c=>match ty t with
  | some ⟨.sl e,_,_,_,_,_⟩=>match ty e with
   | some ⟨_,sz,byt,some z,_,_⟩=>match val tm l,val tm c with
    | some (.int _ (.ofNat n)),some (.int _ (.ofNat m))=>
     bif Nat.beq n m&&(Nat.blt 0 sz&&(Nat.blt 0 byt&&(Nat.beq z.cells.length sz&&Nat.ble (n*byt) 140737488355328)))then some (.row n e sz (zeros z.cells n),fun i => .rs i n true)
     else none
    | _,_=>none
   | _=>none
  | _=>none
 | _=>none
def evUpd (ty:Nat→Option TyI) (tm:Tm) (h:H) (t:Nat) (m k x:Operand):Option (AV × H):=
 match ty t with
 | some ⟨.mp kt _,_,_,_,_,_⟩=>match ty kt,val tm m,val tm k,val tm x with
  | some ik,some (.map (some id)),some key,some v=>match h.t.get id with
   | some (.map es)=>bif keyOk ty ik.kind key then match mapPut key v es with|none=>none|some m=>some (.tup [],h.put id (.map m))else none
   | _=>none
  | _,_,_,_=>none
 | _=>none
def bF [MT] (ty:Nat→Option TyI) (tm:Tm) (h:H) (o:Op):Option (AV × H):=
 match o with
 | .store t a x=>match ty t,val tm a,val tm x with
  | some i,some (.ptr (some (id,off))),some v=>match h.t.get id with
   | some (.cells cs)=>
    bif Nat.beq v.cells.length i.sz&&(Nat.ble (off+i.sz) cs.length&&bB v.cells)then some (.tup [],h.put id (.cells (aY cs off v.cells)))
    else none
   | _=>none
  | some i,some (.rp id len off),some v=>match h.t.get id with
   | some (.row n e s cs)=>
    bif Nat.beq n len&&(Nat.beq v.cells.length i.sz&&(Nat.ble (off+i.sz) cs.length&&bB v.cells))then some (.tup [],h.put id (.row n e s (aY cs off v.cells)))
    else none
   | _=>none
  | _,_,_=>none
 | .mapUpdate t m k x=>evUpd ty tm h t m k x
 | .insert t m k x=>evUpd ty tm h t m k x
 | .call c=>match c.callee with
  | .builtin .append=>match c.argTypes.toList,aH tm c.args.toList with
   | [t,u],some [x,y]=>match ty t,ty u with
    | some ⟨.sl e,_,_,_,_,_⟩,some ⟨.sl _,_,_,_,_,_⟩=>match ty e with
     | some ⟨_,sz,byt,some z,_,_⟩=>bif Nat.beq z.cells.length sz then bif MT.mt t then eQ e sz byt h x y else(match y with | .sl _ ys=>bG e sz byt h x ys|_=>none)else none
     | _=>none
    | some ⟨.sl e,_,_,_,_,_⟩,some ⟨.str,_,_,_,_,_⟩=>match ty e with
     | some ⟨_,sz,byt,some z,_,_⟩=>bif Nat.beq z.cells.length sz&&(Nat.beq sz 1 && !MT.mt t)then(match y with | .str ys=>bG e sz byt h x (ys.map fun n => .int .u8 (Int.ofNat n))|_=>none)else none
     | _=>none
    | _,_=>none
   | _,_=>none
  | _=>none
 | _=>none
inductive OK where
 | pure
 | read
 | new
 | write
def aL [MT]:Op→OK
 | .load .. | .lookup .. => .read
 | .alloc _ | .box .. | .makeMap .. | .makeSlice .. => .new
 | .store .. | .mapUpdate .. | .insert .. => .write
 | .call c=>match c.callee with
  | .builtin .len => .read
  | .builtin .min => .read
  | .builtin .max => .read
  | _ => .write
 | .buildSlice t len _=>bif MT.mt t&&Nat.blt 0 len then .new else .pure
 | _ => .pure
def bT [MT] (ty:Nat→Option TyI) (tm:Tm) (h:H) (o:Op):Option (AV × H):=
 match aL o with
 | .pure=>match aN ty tm o with
  | some v=>some (v,h)
  | none=>none
 | .read=>match aQ ty tm h o with
  | some v=>some (v,h)
  | none=>none
 | .new=>match bX ty tm o with
  | some (ob,f)=>some (f h.nx,h.new ob)
  | none=>none
 | .write=>bF ty tm h o
end Go.Ev
