/- The abstract machine: statements, calls. -/
import Derived.Test.YtncccgglillmoaaGreatDoorEvA
set_option autoImplicit false
set_option linter.unusedVariables false
set_option linter.unusedSimpArgs false
namespace Go.Ev
variable [MT]

structure PE where
  i : Nat
  eff : Bool
  chk : List Nat

inductive Alt where
  | leaf (pl : List PE)
  | split (a b : Nat) (l r : Alt)

structure Env where
  ty : Nat → Option TyI
  fns : Nat → Option Func
  plan : Nat → Nat → Option (List PE)
  prim : Nat → Option (List AV → H → Option (AV × H))
  alt : Nat → Nat → Option Alt := fun _ _ => none

abbrev CallF := Nat → List AV → H → Option (AV × H)

def wantedA (ops : Array Oper) (tm : Tm) (o : Oper) : Option Bool :=
  match o.guard with
  | none => some true
  | some (j, want) => match (ops[j]?).bind (·.dst) with
    | none => some false
    | some d => match tm.get d with
      | some (.bool b) => some (b == want)
      | some (.tup _) => some false
      | _ => none

def putTm (n : Nat) (dst : Option Nat) (v : AV) (tm : Tm) : Option Tm :=
  match dst with
  | none => some tm
  | some d => bif Nat.blt d n then some (tm.set d v) else none

def evAct (call : CallF) (ty : Nat → Option TyI) (tm : Tm) (h : H) (o : Op) : Option (AV × H) :=
  match o with
  | .call { callee := .value f, args, argTypes := _ } => match val tm f, allVals tm args.toList with
    | some (.fn g first cap), some vs => call g (first ++ vs ++ cap) h
    | _, _ => none
  | o => evOp ty tm h o

def evOne (call : CallF) (ty : Nat → Option TyI) (n : Nat) (ops : Array Oper) (o : Oper) (tm : Tm) (h : H) : Option (Tm × H) :=
  match wantedA ops tm o with
  | none => none
  | some false => match putTm n o.dst (.tup []) tm with
    | none => none
    | some tm' => some (tm', h)
  | some true => match evAct call ty tm h o.op with
    | none => none
    | some (v, h') => match putTm n o.dst v tm with
      | none => none
      | some tm' => some (tm', h')

def evSeq (call : CallF) (ty : Nat → Option TyI) (n : Nat) (ops : Array Oper) : List Oper → Tm → H → Option (Tm × H)
  | [], tm, h => some (tm, h)
  | o :: r, tm, h => match evOne call ty n ops o tm h with
    | none => none
    | some (tm', h') => evSeq call ty n ops r tm' h'

/-- What was read reads so again. -/
def recheck (ty : Nat → Option TyI) (ops : Array Oper) (tm : Tm) (h : H) : List Nat → Bool
  | [] => true
  | j :: l => (match ops[j]? with
    | none => false
    | some o => match wantedA ops tm o with
      | none => false
      | some false => true
      | some true => match o.dst with
        | none => false
        | some d => match evOp ty tm h o.op, tm.get d with
          | some (v, _), some u => AV.beq v u
          | _, _ => false) && recheck ty ops tm h l

def evPlan (call : CallF) (ty : Nat → Option TyI) (n : Nat) (ops : Array Oper) : List PE → Tm → H → Option (Tm × H)
  | [], tm, h => some (tm, h)
  | p :: r, tm, h => match ops[p.i]? with
    | none => none
    | some o => match evOne call ty n ops o tm h with
      | none => none
      | some (tm', h') => bif recheck ty ops tm' h' p.chk then evPlan call ty n ops r tm' h' else none

/-! ### Alternatives of a drawn region -/
/-- b waits for a, too. -/
def addEdge (ops : Array Oper) (b a : Nat) : Array Oper := ops.modify b fun o => { o with after := o.after.push ⟨a, .data⟩ }
def T.same {α : Type} (f : α → α → Bool) : T α → T α → Bool
  | .e, .e => true
  | .n a l r, .n b m s => (match a, b with | none, none => true | some x, some y => f x y | _, _ => false) && (T.same f l m && T.same f r s)
  | _, _ => false
def pairsSame : List (AV × AV) → List (AV × AV) → Bool
  | [], [] => true
  | (a, b) :: l, (c, d) :: m => AV.beq a c && (AV.beq b d && pairsSame l m)
  | _, _ => false
def objSame : Obj → Obj → Bool
  | .cells a, .cells b => AV.beqs a b
  | .map a, .map b => pairsSame a b
  | .chain a b c, .chain d e f => Nat.beq a d && (Nat.beq b e && Nat.beq c f)
  | .row a b c x, .row d e f y => Nat.beq a d && (Nat.beq b e && (Nat.beq c f && AV.beqs x y))
  | _, _ => false
def stSame (x y : Tm × H) : Bool := T.same AV.beq x.1 y.1 && (T.same objSame x.2.t y.2.t && Nat.beq x.2.nx y.2.nx)
def evAlt (call : CallF) (ty : Nat → Option TyI) (n : Nat) : Array Oper → Alt → Tm → H → Option (Tm × H)
  | ops, .leaf pl, tm, h => evPlan call ty n ops pl tm h
  | ops, .split a b l r, tm, h => match evAlt call ty n (addEdge ops b a) l tm h, evAlt call ty n (addEdge ops a b) r tm h with
    | some x, some y => bif stSame x y then some x else none
    | _, _ => none

inductive Ex where
  | normal
  | exit (id : Nat)
  | ret

def evCode (call : CallF) (E : Env) (f n : Nat) : Nat → Code → Tm → H → Option (Ex × Tm × H)
  | 0, _, _, _ => none
  | k + 1, c, tm, h => match c with
    | .skip => some (.normal, tm, h)
    | .label _ => some (.normal, tm, h)
    | .region _ ops false => match evSeq call E.ty n ops ops.toList tm h with
      | none => none
      | some (tm', h') => some (.normal, tm', h')
    | .region id ops true => match E.plan f id with
      | none => match E.alt f id with
        | none => none
        | some al => match evAlt call E.ty n ops al tm h with
          | none => none
          | some (tm', h') => some (.normal, tm', h')
      | some pl => match evPlan call E.ty n ops pl tm h with
        | none => none
        | some (tm', h') => some (.normal, tm', h')
    | .seq a b => match evCode call E f n k a tm h with
      | none => none
      | some (.normal, tm', h') => evCode call E f n k b tm' h'
      | some r => some r
    | .cond c a b => match val tm c with
      | some (.bool t) => bif t then evCode call E f n k a tm h else evCode call E f n k b tm h
      | _ => none
    | .block id b => match evCode call E f n k b tm h with
      | none => none
      | some (.exit j, tm', h') => some (bif Nat.beq j id then .normal else .exit j, tm', h')
      | some r => some r
    | .loop b => match evCode call E f n k b tm h with
      | none => none
      | some (.normal, tm', h') => evCode call E f n k (.loop b) tm' h'
      | some r => some r
    | .exit id => some (.exit id, tm, h)
    | .ret => some (.ret, tm, h)
    | _ => none

def setArgs : Nat → List AV → Tm → Tm
  | _, [], tm => tm
  | i, v :: l, tm => setArgs (i + 1) l (tm.set i v)

def evRes (ty : Nat → Option TyI) (tm : Tm) (h : H) : List ResultVar → Option (List AV)
  | [] => some []
  | .tmp t :: l => match tm.get t, evRes ty tm h l with
    | some v, some m => some (v :: m)
    | _, _ => none
  | .cell a t :: l => match evOp ty tm h (.load t (.tmp a)), evRes ty tm h l with
    | some (v, _), some m => some (v :: m)
    | _, _ => none
def resOf : List AV → AV
  | [v] => v
  | l => .tup l

def evFn (E : Env) : Nat → CallF
  | 0, _, _, _ => none
  | k + 1, f, args, h => match E.prim f with
    | some p => p args h
    | none => match E.fns f with
      | none => none
      | some fn => match fn.body with
        | none => none
        | some c => bif Nat.ble args.length fn.ntmps then
            match evCode (evFn E k) E f fn.ntmps k c (setArgs 0 args .e) h with
            | some (.normal, tm, h') => match evRes E.ty tm h' fn.results.toList with
              | some l => some (resOf l, h')
              | none => none
            | some (.ret, tm, h') => match evRes E.ty tm h' fn.results.toList with
              | some l => some (resOf l, h')
              | none => none
            | _ => none
          else none

end Go.Ev
