/- The abstract machine: statements, calls. -/
import Derived.Test.YtncccgglillmoaaGreatDoorEvA
import Derived.Test.YtncccgglillmoaaGreatDoorEvB
set_option autoImplicit false
set_option maxRecDepth 100000
set_option linter.unusedSimpArgs false
set_option linter.unusedVariables false
set_option linter.unusedSectionVars false
namespace Go.Ev
variable [MT]

structure PE where
  i : Nat
  eff : Bool
  chk : List Nat

inductive Alt where
  | leaf (pl : List PE)
  | split (a b : Nat) (l r : Alt)

structure Env where
  ty : Nat → Option TyI
  fns : Nat → Option Func
  plan : Nat → Nat → Option (List PE)
  prim : Nat → Option (List AV → H → Option (AV × H))
  alt : Nat → Nat → Option Alt := fun _ _ => none

abbrev CallF := Nat → List AV → H → Option (AV × H)

def wantedA (ops : Array Oper) (tm : Tm) (o : Oper) : Option Bool :=
  match o.guard with
  | none => some true
  | some (j, want) => match (ops[j]?).bind (·.dst) with
    | none => some false
    | some d => match tm.get d with
      | some (.bool b) => some (b == want)
      | some (.tup _) => some false
      | _ => none

def putTm (n : Nat) (dst : Option Nat) (v : AV) (tm : Tm) : Option Tm :=
  match dst with
  | none => some tm
  | some d => bif Nat.blt d n then some (tm.set d v) else none

def evAct (call : CallF) (ty : Nat → Option TyI) (tm : Tm) (h : H) (o : Op) : Option (AV × H) :=
  match o with
  | .call { callee := .value f, args, argTypes := _ } => match val tm f, allVals tm args.toList with
    | some (.fn g first cap), some vs => call g (first ++ vs ++ cap) h
    | _, _ => none
  | o => evOp ty tm h o

def evOne (call : CallF) (ty : Nat → Option TyI) (n : Nat) (ops : Array Oper) (o : Oper) (tm : Tm) (h : H) : Option (Tm × H) :=
  match wantedA ops tm o with
  | none => none
  | some false => match putTm n o.dst (.tup []) tm with
    | none => none
    | some tm' => some (tm', h)
  | some true => match evAct call ty tm h o.op with
    | none => none
    | some (v, h') => match putTm n o.dst v tm with
      | none => none
      | some tm' => some (tm', h')

def evSeq (call : CallF) (ty : Nat → Option TyI) (n : Nat) (ops : Array Oper) : List Oper → Tm → H → Option (Tm × H)
  | [], tm, h => some (tm, h)
  | o :: r, tm, h => match evOne call ty n ops o tm h with
    | none => none
    | some (tm', h') => evSeq call ty n ops r tm' h'

/-- What was read reads so again. -/
def recheck (ty : Nat → Option TyI) (ops : Array Oper) (tm : Tm) (h : H) : List Nat → Bool
  | [] => true
  | j :: l => (match ops[j]? with
    | none => false
    | some o => match wantedA ops tm o with
      | none => false
      | some false => true
      | some true => match o.dst with
        | none => false
        | some d => match evOp ty tm h o.op, tm.get d with
          | some (v, _), some u => AV.beq v u
          | _, _ => false) && recheck ty ops tm h l

def evPlan (call : CallF) (ty : Nat → Option TyI) (n : Nat) (ops : Array Oper) : List PE → Tm → H → Option (Tm × H)
  | [], tm, h => some (tm, h)
  | p :: r, tm, h => match ops[p.i]? with
    | none => none
    | some o => match evOne call ty n ops o tm h with
      | none => none
      | some (tm', h') => bif recheck ty ops tm' h' p.chk then evPlan call ty n ops r tm' h' else none

/-! ### Alternatives of a drawn region -/
/-- b waits for a, too. -/
def addEdge (ops : Array Oper) (b a : Nat) : Array Oper := ops.modify b fun o => { o with after := o.after.push ⟨a, .data⟩ }
def T.same {α : Type} (f : α → α → Bool) : T α → T α → Bool
  | .e, .e => true
  | .n a l r, .n b m s => (match a, b with | none, none => true | some x, some y => f x y | _, _ => false) && (T.same f l m && T.same f r s)
  | _, _ => false
def pairsSame : List (AV × AV) → List (AV × AV) → Bool
  | [], [] => true
  | (a, b) :: l, (c, d) :: m => AV.beq a c && (AV.beq b d && pairsSame l m)
  | _, _ => false
def objSame : Obj → Obj → Bool
  | .cells a, .cells b => AV.beqs a b
  | .map a, .map b => pairsSame a b
  | .chain a b c, .chain d e f => Nat.beq a d && (Nat.beq b e && Nat.beq c f)
  | .row a b c x, .row d e f y => Nat.beq a d && (Nat.beq b e && (Nat.beq c f && AV.beqs x y))
  | _, _ => false
def stSame (x y : Tm × H) : Bool := T.same AV.beq x.1 y.1 && (T.same objSame x.2.t y.2.t && Nat.beq x.2.nx y.2.nx)
def evAlt (call : CallF) (ty : Nat → Option TyI) (n : Nat) : Array Oper → Alt → Tm → H → Option (Tm × H)
  | ops, .leaf pl, tm, h => evPlan call ty n ops pl tm h
  | ops, .split a b l r, tm, h => match evAlt call ty n (addEdge ops b a) l tm h, evAlt call ty n (addEdge ops a b) r tm h with
    | some x, some y => bif stSame x y then some x else none
    | _, _ => none

inductive Ex where
  | normal
  | exit (id : Nat)
  | ret

def evCode (call : CallF) (E : Env) (f n : Nat) : Nat → Code → Tm → H → Option (Ex × Tm × H)
  | 0, _, _, _ => none
  | k + 1, c, tm, h => match c with
    | .skip => some (.normal, tm, h)
    | .label _ => some (.normal, tm, h)
    | .region _ ops false => match evSeq call E.ty n ops ops.toList tm h with
      | none => none
      | some (tm', h') => some (.normal, tm', h')
    | .region id ops true => match E.plan f id with
      | none => match E.alt f id with
        | none => none
        | some al => match evAlt call E.ty n ops al tm h with
          | none => none
          | some (tm', h') => some (.normal, tm', h')
      | some pl => match evPlan call E.ty n ops pl tm h with
        | none => none
        | some (tm', h') => some (.normal, tm', h')
    | .seq a b => match evCode call E f n k a tm h with
      | none => none
      | some (.normal, tm', h') => evCode call E f n k b tm' h'
      | some r => some r
    | .cond c a b => match val tm c with
      | some (.bool t) => bif t then evCode call E f n k a tm h else evCode call E f n k b tm h
      | _ => none
    | .block id b => match evCode call E f n k b tm h with
      | none => none
      | some (.exit j, tm', h') => some (bif Nat.beq j id then .normal else .exit j, tm', h')
      | some r => some r
    | .loop b => match evCode call E f n k b tm h with
      | none => none
      | some (.normal, tm', h') => evCode call E f n k (.loop b) tm' h'
      | some r => some r
    | .exit id => some (.exit id, tm, h)
    | .ret => some (.ret, tm, h)
    | _ => none

def setArgs : Nat → List AV → Tm → Tm
  | _, [], tm => tm
  | i, v :: l, tm => setArgs (i + 1) l (tm.set i v)

def evRes (ty : Nat → Option TyI) (tm : Tm) (h : H) : List ResultVar → Option (List AV)
  | [] => some []
  | .tmp t :: l => match tm.get t, evRes ty tm h l with
    | some v, some m => some (v :: m)
    | _, _ => none
  | .cell a t :: l => match evOp ty tm h (.load t (.tmp a)), evRes ty tm h l with
    | some (v, _), some m => some (v :: m)
    | _, _ => none
def resOf : List AV → AV
  | [v] => v
  | l => .tup l

def evFn (E : Env) : Nat → CallF
  | 0, _, _, _ => none
  | k + 1, f, args, h => match E.prim f with
    | some p => p args h
    | none => match E.fns f with
      | none => none
      | some fn => match fn.body with
        | none => none
        | some c => bif Nat.ble args.length fn.ntmps then
            match evCode (evFn E k) E f fn.ntmps k c (setArgs 0 args .e) h with
            | some (.normal, tm, h') => match evRes E.ty tm h' fn.results.toList with
              | some l => some (resOf l, h')
              | none => none
            | some (.ret, tm, h') => match evRes E.ty tm h' fn.results.toList with
              | some l => some (resOf l, h')
              | none => none
            | _ => none
          else none

end Go.Ev
/- Each operation of the abstract machine is the model's: memory. -/
namespace Go.Ev
variable [Inhabited KA0] [MT]

/-! ### 1. What a type's row says -/
def TyOk (P : Program) (ty : Nat → Option TyI) : Prop := ∀ t i, ty t = some i → tyOf P t = some i

theorem tyOf_some {P : Program} {t : Nat} {i : TyI} (h : tyOf P t = some i) :
    ∃ inf d, P.info? t = some inf ∧ P.underlying t = some d ∧ i.kind = kindOf P d ∧ i.sz = inf.size ∧ i.byt = inf.bytes ∧ i.zero = inf.zero.bind ofVal ∧ i.ag = isAggD d := by
  unfold tyOf at h
  split at h
  · rename_i inf d h1 h2
    simp only [Option.some.injEq] at h
    subst h
    exact ⟨inf, d, h1, h2, rfl, rfl, rfl, rfl, rfl⟩
  · simp at h
theorem tyOf_eqf {P : Program} {t : Nat} {i : TyI} (h : tyOf P t = some i) : i.eqf = eqFlat P t := by
  unfold tyOf at h
  split at h
  · simp only [Option.some.injEq] at h
    subst h
    rfl
  · simp at h

theorem all0_some {α β : Type} {f : α → Option β} : ∀ {l : List α} {m : List β}, all0 f l = some m → m.length = l.length ∧ ∀ (i : Nat) y, m[i]? = some y → ∃ x, l[i]? = some x ∧ f x = some y
  | [], m, h => by simp [all0] at h; subst h; exact ⟨rfl, fun i y hy => by simp at hy⟩
  | a :: l, m, h => by
    simp only [all0] at h
    split at h
    · simp at h
    · rename_i b hb
      split at h
      · simp at h
      · rename_i m' hm
        simp only [Option.some.injEq] at h
        subst h
        obtain ⟨h1, h2⟩ := all0_some hm
        refine ⟨by simp [h1], fun i y hy => ?_⟩
        cases i with
        | zero => simp at hy; subst hy; exact ⟨a, rfl, hb⟩
        | succ i => simp at hy; obtain ⟨x, hx, hf⟩ := h2 i y hy; exact ⟨x, by simpa using hx, hf⟩

theorem kind_struct {P : Program} {d : TypeDesc} {fs : List (Nat × Nat × Bool)} (h : TK.st fs = kindOf P d) : ∃ f, d = .struct f ∧ all0 (fieldOf P) f.toList = some fs := by
  unfold kindOf at h
  split at h
  · rename_i f
    split at h
    · rename_i l hl
      simp only [TK.st.injEq] at h
      subst h
      exact ⟨f, rfl, hl⟩
    · simp at h
  all_goals simp at h
theorem kind_slice {P : Program} {d : TypeDesc} {e : Nat} (h : TK.sl e = kindOf P d) : d = .slice e := by
  unfold kindOf at h
  split at h
  · split at h <;> simp at h
  all_goals simp_all
theorem kind_map {P : Program} {d : TypeDesc} {k e : Nat} (h : TK.mp k e = kindOf P d) : d = .map k e := by
  unfold kindOf at h
  split at h
  · split at h <;> simp at h
  all_goals simp_all
theorem kind_str {P : Program} {d : TypeDesc} (h : TK.str = kindOf P d) : d = .string := by
  unfold kindOf at h
  split at h
  · split at h <;> simp at h
  all_goals simp_all
theorem kind_int {P : Program} {d : TypeDesc} {k : IntKind} (h : TK.int k = kindOf P d) : d = .int k := by
  unfold kindOf at h
  split at h
  · split at h <;> simp at h
  all_goals simp_all
theorem kind_bool {P : Program} {d : TypeDesc} (h : TK.bool = kindOf P d) : d = .bool := by
  unfold kindOf at h
  split at h
  · split at h <;> simp at h
  all_goals simp_all
theorem kind_ptr {P : Program} {d : TypeDesc} {e : Nat} (h : TK.ptr e = kindOf P d) : d = .pointer e := by
  unfold kindOf at h
  split at h
  · split at h <;> simp at h
  all_goals simp_all
theorem kind_iface {P : Program} {d : TypeDesc} (h : TK.iface = kindOf P d) : ∃ m, d = .interface m := by
  unfold kindOf at h
  split at h
  · split at h <;> simp at h
  all_goals simp_all

/-! ### 2. Constants -/
theorem ofVal0_VR (G : Gh) (w : World) {v : Value} {x : AV} (h : ofVal0 v = some x) : VR G w v x := by
  unfold ofVal0 at h
  split at h
  all_goals first | (simp only [Option.some.injEq] at h; subst h) | (simp at h; done)
  · exact .bool _
  · exact .int _ _
  · exact .str _
  · exact .ptr0
  · exact .sl0 none 0 _ (fun _ => rfl) rfl
  · exact .map0
  · exact .nilFn
  · exact .nilIface
theorem ofVal_VR (G : Gh) (w : World) {v : Value} {x : AV} (h : ofVal v = some x) : VR G w v x := by
  have arr : ∀ {cs : Array Value} {l : List AV}, all0 ofVal0 cs.toList = some l → cs.size = l.length ∧ ∀ (i : Nat) u y, cs[i]? = some u → l[i]? = some y → VR G w u y := by
    intro cs l hl
    obtain ⟨h1, h2⟩ := all0_some hl
    refine ⟨by simpa using h1.symm, fun i u y hu hy => ?_⟩
    obtain ⟨u', hu', hf⟩ := h2 i y hy
    have : u' = u := by simp at hu'; rw [hu] at hu'; exact (Option.some.inj hu').symm
    subst this
    exact ofVal0_VR G w hf
  unfold ofVal at h
  split at h
  · obtain ⟨l, hl, rfl⟩ := Option.map_eq_some_iff.1 h
    obtain ⟨a, b⟩ := arr hl
    exact .agg _ _ a b
  · obtain ⟨l, hl, rfl⟩ := Option.map_eq_some_iff.1 h
    obtain ⟨a, b⟩ := arr hl
    exact .tup _ _ a b
  · exact ofVal0_VR G w h

/-! ### 3. New blocks -/
def Gh.add (G : Gh) (id b : Nat) : Gh :=
  { G with ρ := fun i => if i = id then some b else G.ρ i, fr := fun c => if c = b then some 0 else G.fr c, ow := fun c => if c = b then some id else G.ow c }

section
variable {P : Program} {G : Gh} {w : World} {h : H}
theorem Inv.fresh (I : Inv G w h) : G.ρ h.nx = none ∧ G.cv h.nx = none ∧ G.fr w.heap.size = none := by
  refine ⟨?_, ?_, ?_⟩
  · cases hr : G.ρ h.nx with
    | none => rfl
    | some b => have := (I.obj _ _ hr).1; omega
  · cases hr : G.cv h.nx with
    | none => rfl
    | some p => obtain ⟨n, v⟩ := p; have := (I.chn _ _ _ hr).1; omega
  · cases hr : G.fr w.heap.size with
    | none => rfl
    | some k => have := (I.frb _ _ hr).2; omega
theorem Inv.get_fresh (I : Inv G w h) : h.t.get h.nx = none := by
  cases hr : h.t.get h.nx with
  | none => rfl
  | some o => have := I.wf _ _ hr; omega

/-- A new block that the abstract heap knows nothing of. -/
theorem alloc_ext (I : Inv G w h) (o : Go.Obj) : Ext G w h G (w.alloc o) h where
  os := rfl
  tape := rfl
  output := rfl
  size := by simp
  base := rfl
  still := fun b hb hf => ⟨heap_alloc_old w o b hb, hf⟩
  part := fun b k q v hf ho hv => ⟨(World.cell?_alloc_lt w o ⟨b, q, none⟩ (World.block_lt_of_cell? w ⟨b, q, none⟩ hv)).trans hv, .inr ⟨k, hf, ho⟩⟩
  ρ := fun _ _ h => h
  cv := fun _ n v h => ⟨n, v, h, Nat.le_refl _, fun _ => rfl⟩
  nx := Nat.le_refl _
  unm := fun _ _ a b => ⟨rfl, a, b⟩
  own := fun b hb ho => ⟨heap_alloc_old w o b hb, rfl, ho⟩
theorem alloc_inv (I : Inv G w h) (o : Go.Obj) : Inv G (w.alloc o) h where
  wf := I.wf
  frb := fun b k hf => ⟨(I.frb b k hf).1, by have := (I.frb b k hf).2; simp; omega⟩
  bas := by have := I.bas; simp; omega
  obj := fun id b hr => by
    obtain ⟨h1, h2, h3, h4⟩ := I.obj id b hr
    refine ⟨h1, h2, h3, ?_⟩
    rw [heap_alloc_old w o b (I.frb b 0 h2).2]
    exact h4.mono (alloc_ext I o)
  chn := fun id n v hc => by
    obtain ⟨h1, g, e, size, xs, cap, k, h2, h3, h4, h5, h6⟩ := I.chn id n v hc
    exact ⟨h1, g, e, size, xs, cap, k, h2.mono (alloc_ext I o), h3, h4.alloc o, h5, h6⟩
  ka := I.ka.mono (alloc_ext I o)

/-- A draw. -/
theorem drew_ext (G : Gh) (w : World) (h : H) : Ext G w h G w.drew h :=
  ⟨rfl, rfl, rfl, Nat.le_refl _, rfl, fun _ _ h => ⟨rfl, h⟩, fun _ k _ _ h ho hv => ⟨hv, .inr ⟨k, h, ho⟩⟩, fun _ _ h => h, fun _ n v h => ⟨n, v, h, Nat.le_refl _, fun _ => rfl⟩, Nat.le_refl _, fun _ _ a b => ⟨rfl, a, b⟩, fun _ _ h => ⟨rfl, rfl, h⟩⟩
theorem drew_inv (I : Inv G w h) : Inv G w.drew h where
  wf := I.wf
  frb := I.frb
  bas := I.bas
  obj := fun id b hr => by
    obtain ⟨h1, h2, h3, h4⟩ := I.obj id b hr
    exact ⟨h1, h2, h3, h4.mono (drew_ext G w h)⟩
  chn := fun id n v hc => by
    obtain ⟨h1, g, e, size, xs, cap, k, h2, h3, h4, h5, h6⟩ := I.chn id n v hc
    exact ⟨h1, g, e, size, xs, cap, k, h2.mono (drew_ext G w h), h3, h4, h5, h6⟩
  ka := I.ka

/-- An abstract object that lies nowhere yet. -/
theorem new_inv (I : Inv G w h) (o : Obj) : Inv G w (h.new o) where
  wf := fun id p hp => by
    by_cases hi : id = h.nx
    · subst hi; show h.nx < h.nx + 1; omega
    · have : h.t.get id = some p := by rw [← hp]; exact (T.get_set_ne _ _ hi).symm
      have := I.wf _ _ this
      show id < h.nx + 1; omega
  frb := I.frb
  bas := I.bas
  obj := fun id b hr => by
    obtain ⟨h1, h2, h3, h4⟩ := I.obj id b hr
    have e : (h.new o).t.get id = h.t.get id := T.get_set_ne _ _ (by omega)
    exact ⟨by show id < h.nx + 1; omega, h2, h3, by rw [e]; exact h4⟩
  chn := fun id n v hc => by
    obtain ⟨h1, g, e', size, xs, cap, k, h2, r⟩ := I.chn id n v hc
    have e : (h.new o).t.get id = h.t.get id := T.get_set_ne _ _ (by omega)
    exact ⟨by show id < h.nx + 1; omega, g, e', size, xs, cap, k, by rw [e]; exact h2, r⟩
  ka := I.ka

/-- A new block for an abstract object that lies nowhere yet. -/
theorem add_ext (I : Inv G w h) (id : Nat) (hi : id < h.nx) (hr : G.ρ id = none) (hc : G.cv id = none) (p : Go.Obj) (h0 : H) (h0n : h0.nx ≤ h.nx)
    (hm : ∀ j, j < h0.nx → G.ρ j = none → G.cv j = none → j ≠ id) (hs : ∀ j, j < h0.nx → h.t.get j = h0.t.get j) : Ext G w h0 (G.add id w.heap.size) (w.alloc p) h where
  os := rfl
  tape := rfl
  output := rfl
  size := by simp
  base := rfl
  still := fun b hb hf => ⟨heap_alloc_old w p b hb, by simp only [Gh.add]; rw [if_neg (by omega)]; exact hf⟩
  part := fun b k q v hf ho hv => by
    have hb := World.block_lt_of_cell? w ⟨b, q, none⟩ hv
    refine ⟨(World.cell?_alloc_lt w p ⟨b, q, none⟩ hb).trans hv, .inr ⟨k, ?_, ho⟩⟩
    simp only [Gh.add]; rw [if_neg (by simp at hb; omega)]; exact hf
  ρ := fun j b hj => by
    simp only [Gh.add]
    split
    · rename_i e; subst e; rw [hr] at hj; cases hj
    · exact hj
  cv := fun _ n v h => ⟨n, v, h, Nat.le_refl _, fun _ => rfl⟩
  nx := h0n
  unm := fun j hj a b => ⟨hs j hj, by simp only [Gh.add]; rw [if_neg (hm j hj a b)]; exact a, b⟩
  own := fun b hb ho => ⟨heap_alloc_old w p b hb, by simp only [Gh.add]; rw [if_neg (by omega)], by simp only [Gh.add]; rw [if_neg (by omega)]; exact ho⟩
theorem add_inv (I : Inv G w h) (id : Nat) (hi : id < h.nx) (hr : G.ρ id = none) (hc : G.cv id = none) (p : Go.Obj) (ho : ObjR G w (h.t.get id) (some p)) :
    Inv (G.add id w.heap.size) (w.alloc p) h := by
  have E : Ext G w ⟨h.t, 0⟩ (G.add id w.heap.size) (w.alloc p) h := add_ext I id hi hr hc p ⟨h.t, 0⟩ (Nat.zero_le _) (fun j hj => absurd hj (by simp)) (fun j _ => rfl)
  refine ⟨I.wf, ?_, by have := I.bas; simp [Gh.add]; omega, ?_, ?_, I.ka.mono E⟩
  · intro b k hf
    simp only [Gh.add] at hf ⊢
    split at hf
    · rename_i e; subst e; exact ⟨I.bas, by simp⟩
    · have := I.frb b k hf; exact ⟨this.1, by simp; omega⟩
  · intro j b hj
    simp only [Gh.add] at hj
    split at hj
    · rename_i e
      simp only [Option.some.injEq] at hj
      subst e; subst hj
      refine ⟨hi, by simp [Gh.add], by simp [Gh.add], ?_⟩
      rw [heap_alloc_new]
      exact ho.mono E
    · obtain ⟨h1, h2, h3, h4⟩ := I.obj j b hj
      have hb : b < w.heap.size := (I.frb b 0 h2).2
      refine ⟨h1, by simp only [Gh.add]; rw [if_neg (by omega)]; exact h2, by simp only [Gh.add]; rw [if_neg (by omega)]; exact h3, ?_⟩
      rw [heap_alloc_old w p b hb]
      exact h4.mono E
  · intro j n v hc'
    obtain ⟨h1, g, e, size, xs, cap, k, h2, h3, h4, h5, h6, h7⟩ := I.chn j n v hc'
    have hb : g < w.heap.size := (I.frb g _ h5).2
    exact ⟨h1, g, e, size, xs, cap, k, h2.mono E, h3, h4.alloc p, by simp only [Gh.add]; rw [if_neg (by omega)]; exact h5, by simp only [Gh.add]; rw [if_neg (by omega)]; exact h6, h7⟩
/-- Both at once. -/
theorem newAdd (I : Inv G w h) (o : Obj) (p : Go.Obj) (ho : ObjR G w (some o) (some p)) :
    Inv (G.add h.nx w.heap.size) (w.alloc p) (h.new o) ∧ Ext G w h (G.add h.nx w.heap.size) (w.alloc p) (h.new o) := by
  obtain ⟨f1, f2, f3⟩ := I.fresh
  have J := new_inv I o
  have hg : (h.new o).t.get h.nx = some o := T.get_set _ _ _
  refine ⟨add_inv J h.nx (by show h.nx < h.nx + 1; omega) f1 f2 p (by rw [hg]; exact ho), ?_⟩
  exact add_ext J h.nx (by show h.nx < h.nx + 1; omega) f1 f2 p h (by show h.nx ≤ h.nx + 1; omega) (fun j hj _ _ => by omega) (fun j hj => T.get_set_ne _ _ (by omega))

/-- What a new object adds, wherever its number was given. -/
structure AddR (G : Gh) (w : World) (h : H) (id : Nat) (G' : Gh) (w' : World) : Prop where
  inv : Inv G' w' h
  ext : ∀ h0 : H, h0.nx ≤ h.nx → (∀ j, j < h0.nx → G.ρ j = none → G.cv j = none → j ≠ id) → (∀ j, j < h0.nx → h.t.get j = h0.t.get j) → Ext G w h0 G' w' h
  ρ : ∀ j, j ≠ id → G'.ρ j = G.ρ j
  cv : ∀ j, j ≠ id → G'.cv j = G.cv j
theorem add_R (I : Inv G w h) (id : Nat) (hi : id < h.nx) (hr : G.ρ id = none) (hc : G.cv id = none) (p : Go.Obj) (ho : ObjR G w (h.t.get id) (some p)) : AddR G w h id (G.add id w.heap.size) (w.alloc p) where
  inv := add_inv I id hi hr hc p ho
  ext := fun h0 a b c => add_ext I id hi hr hc p h0 a b c
  ρ := fun j hj => by simp only [Gh.add]; rw [if_neg hj]
  cv := fun _ _ => rfl
def Gh.addRow (G : Gh) (id n : Nat) (V : Value) (b : Nat) : Gh :=
  { G with cv := fun i => if i = id then some (n, V) else G.cv i, fr := fun c => if c = b then some 0 else G.fr c, ow := fun c => if c = b then some id else G.ow c }
theorem addRow_R (I : Inv G w h) (id : Nat) (hi : id < h.nx) (hr : G.ρ id = none) (hc : G.cv id = none) {n e s cap : Nat} {C : Array Value} {cs : List AV} (hg : h.t.get id = some (.row n e s cs)) (hs : 0 < s) (hn : n ≤ cap) (hm : cap ≤ maxLen) (hC : C.size = cap * s)
    (hv : VRs G w (C.toList.take (n * s)) cs) : AddR G w h id (G.addRow id n (.slice (some ⟨w.heap.size, 0, none⟩) n cap) w.heap.size) (w.alloc (.cells C e)) := by
  have ext : ∀ h0 : H, h0.nx ≤ h.nx → (∀ j, j < h0.nx → G.ρ j = none → G.cv j = none → j ≠ id) → (∀ j, j < h0.nx → h.t.get j = h0.t.get j) → Ext G w h0 (G.addRow id n (.slice (some ⟨w.heap.size, 0, none⟩) n cap) w.heap.size) (w.alloc (.cells C e)) h := fun h0 h0n hmm hss => {
    os := rfl
    tape := rfl
    output := rfl
    size := by simp
    base := rfl
    still := fun b hb hf => ⟨heap_alloc_old w _ b hb, by simp only [Gh.addRow]; rw [if_neg (by omega)]; exact hf⟩
    part := fun b k q v hf ho hv => by
      have hb := World.block_lt_of_cell? w ⟨b, q, none⟩ hv
      refine ⟨(World.cell?_alloc_lt w _ ⟨b, q, none⟩ hb).trans hv, .inr ⟨k, ?_, ho⟩⟩
      simp only [Gh.addRow]; rw [if_neg (by simp at hb; omega)]; exact hf
    ρ := fun _ _ h => h
    cv := fun j m v hj => by
      simp only [Gh.addRow]
      have hne : j ≠ id := by rintro rfl; rw [hc] at hj; cases hj
      rw [if_neg hne]
      exact ⟨m, v, hj, Nat.le_refl _, fun _ => rfl⟩
    nx := h0n
    unm := fun j hj a b => ⟨hss j hj, a, by simp only [Gh.addRow]; rw [if_neg (hmm j hj a b)]; exact b⟩
    own := fun b hb ho => ⟨heap_alloc_old w _ b hb, by simp only [Gh.addRow]; rw [if_neg (by omega)], by simp only [Gh.addRow]; rw [if_neg (by omega)]; exact ho⟩ }
  have E := ext ⟨h.t, 0⟩ (Nat.zero_le _) (fun j hj => absurd hj (by simp)) (fun j _ => rfl)
  refine ⟨⟨I.wf, ?_, by have := I.bas; simp [Gh.addRow]; omega, ?_, ?_, I.ka.mono E⟩, ext, fun _ _ => rfl, fun j hj => by simp only [Gh.addRow]; rw [if_neg hj]⟩
  · intro b k hf
    simp only [Gh.addRow] at hf ⊢
    split at hf
    · rename_i e; subst e; exact ⟨I.bas, by simp⟩
    · have := I.frb b k hf; exact ⟨this.1, by simp; omega⟩
  · intro j b hj
    obtain ⟨h1, h2, h3, h4⟩ := I.obj j b hj
    have hb : b < w.heap.size := (I.frb b 0 h2).2
    refine ⟨h1, by simp only [Gh.addRow]; rw [if_neg (by omega)]; exact h2, by simp only [Gh.addRow]; rw [if_neg (by omega)]; exact h3, ?_⟩
    rw [heap_alloc_old w _ b hb]
    exact h4.mono E
  · intro j m v hj
    simp only [Gh.addRow] at hj
    split at hj
    · rename_i ej
      subst ej
      simp only [Option.some.injEq, Prod.mk.injEq] at hj
      obtain ⟨rfl, rfl⟩ := hj
      refine ⟨hi, w.heap.size, e, s, _, cap, 0, .inr ⟨cs, hg, rfl, hv.mono E⟩, rfl, ⟨?_, .inr ⟨w.heap.size, cap, C, rfl, I.bas, heap_alloc_new w _, hn, hm, hC, rfl⟩⟩, by simp [Gh.addRow], by simp [Gh.addRow], hs⟩
      have := Nat.mul_le_mul_right s hn
      rw [List.length_take]; simp; omega
    · obtain ⟨h1, g, e', size, xs, cap', k, h2, h3, h4, h5, h6, h7⟩ := I.chn j m v hj
      have hb : g < w.heap.size := (I.frb g _ h5).2
      exact ⟨h1, g, e', size, xs, cap', k, h2.mono E, h3, h4.alloc _, by simp only [Gh.addRow]; rw [if_neg (by omega)]; exact h5, by simp only [Gh.addRow]; rw [if_neg (by omega)]; exact h6, h7⟩
end

end Go.Ev
