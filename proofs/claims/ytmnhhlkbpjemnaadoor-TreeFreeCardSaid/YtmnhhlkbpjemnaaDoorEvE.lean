/- The abstract machine: statements, calls. -/
import Derived.Test.YtmnhhlkbpjemnaaDoorEvB
set_option autoImplicit false
set_option linter.unusedVariables false
set_option linter.unusedSimpArgs false
namespace Go.Ev

structure PE where
  i : Nat
  eff : Bool
  chk : List Nat

structure Env where
  ty : Nat → Option TyI
  fns : Nat → Option Func
  plan : Nat → Nat → Option (List PE)
  prim : Nat → Option (List AV → H → Option (AV × H))

abbrev CallF := Nat → List AV → H → Option (AV × H)

def wantedA (ops : Array Oper) (tm : Tm) (o : Oper) : Option Bool :=
  match o.guard with
  | none => some true
  | some (j, want) => match (ops[j]?).bind (·.dst) with
    | none => some false
    | some d => match tm.get d with
      | some (.bool b) => some (b == want)
      | some (.tup _) => some false
      | _ => none

def putTm (n : Nat) (dst : Option Nat) (v : AV) (tm : Tm) : Option Tm :=
  match dst with
  | none => some tm
  | some d => bif Nat.blt d n then some (tm.set d v) else none

def evAct (call : CallF) (ty : Nat → Option TyI) (tm : Tm) (h : H) (o : Op) : Option (AV × H) :=
  match o with
  | .call { callee := .value f, args, argTypes := _ } => match val tm f, allVals tm args.toList with
    | some (.fn g first cap), some vs => call g (first ++ vs ++ cap) h
    | _, _ => none
  | o => evOp ty tm h o

def evOne (call : CallF) (ty : Nat → Option TyI) (n : Nat) (ops : Array Oper) (o : Oper) (tm : Tm) (h : H) : Option (Tm × H) :=
  match wantedA ops tm o with
  | none => none
  | some false => match putTm n o.dst (.tup []) tm with
    | none => none
    | some tm' => some (tm', h)
  | some true => match evAct call ty tm h o.op with
    | none => none
    | some (v, h') => match putTm n o.dst v tm with
      | none => none
      | some tm' => some (tm', h')

def evSeq (call : CallF) (ty : Nat → Option TyI) (n : Nat) (ops : Array Oper) : List Oper → Tm → H → Option (Tm × H)
  | [], tm, h => some (tm, h)
  | o :: r, tm, h => match evOne call ty n ops o tm h with
    | none => none
    | some (tm', h') => evSeq call ty n ops r tm' h'

/-- What was read reads so again. -/
def recheck (ty : Nat → Option TyI) (ops : Array Oper) (tm : Tm) (h : H) : List Nat → Bool
  | [] => true
  | j :: l => (match ops[j]? with
    | none => false
    | some o => match wantedA ops tm o with
      | none => false
      | some false => true
      | some true => match o.dst with
        | none => false
        | some d => match evOp ty tm h o.op, tm.get d with
          | some (v, _), some u => AV.beq v u
          | _, _ => false) && recheck ty ops tm h l

def evPlan (call : CallF) (ty : Nat → Option TyI) (n : Nat) (ops : Array Oper) : List PE → Tm → H → Option (Tm × H)
  | [], tm, h => some (tm, h)
  | p :: r, tm, h => match ops[p.i]? with
    | none => none
    | some o => match evOne call ty n ops o tm h with
      | none => none
      | some (tm', h') => bif recheck ty ops tm' h' p.chk then evPlan call ty n ops r tm' h' else none

inductive Ex where
  | normal
  | exit (id : Nat)
  | ret

def evCode (call : CallF) (E : Env) (f n : Nat) : Nat → Code → Tm → H → Option (Ex × Tm × H)
  | 0, _, _, _ => none
  | k + 1, c, tm, h => match c with
    | .skip => some (.normal, tm, h)
    | .label _ => some (.normal, tm, h)
    | .region _ ops false => match evSeq call E.ty n ops ops.toList tm h with
      | none => none
      | some (tm', h') => some (.normal, tm', h')
    | .region id ops true => match E.plan f id with
      | none => none
      | some pl => match evPlan call E.ty n ops pl tm h with
        | none => none
        | some (tm', h') => some (.normal, tm', h')
    | .seq a b => match evCode call E f n k a tm h with
      | none => none
      | some (.normal, tm', h') => evCode call E f n k b tm' h'
      | some r => some r
    | .cond c a b => match val tm c with
      | some (.bool t) => bif t then evCode call E f n k a tm h else evCode call E f n k b tm h
      | _ => none
    | .block id b => match evCode call E f n k b tm h with
      | none => none
      | some (.exit j, tm', h') => some (bif Nat.beq j id then .normal else .exit j, tm', h')
      | some r => some r
    | .loop b => match evCode call E f n k b tm h with
      | none => none
      | some (.normal, tm', h') => evCode call E f n k (.loop b) tm' h'
      | some r => some r
    | .exit id => some (.exit id, tm, h)
    | .ret => some (.ret, tm, h)
    | _ => none

def setArgs : Nat → List AV → Tm → Tm
  | _, [], tm => tm
  | i, v :: l, tm => setArgs (i + 1) l (tm.set i v)

def evRes (ty : Nat → Option TyI) (tm : Tm) (h : H) : List ResultVar → Option (List AV)
  | [] => some []
  | .tmp t :: l => match tm.get t, evRes ty tm h l with
    | some v, some m => some (v :: m)
    | _, _ => none
  | .cell a t :: l => match evOp ty tm h (.load t (.tmp a)), evRes ty tm h l with
    | some (v, _), some m => some (v :: m)
    | _, _ => none
def resOf : List AV → AV
  | [v] => v
  | l => .tup l

def evFn (E : Env) : Nat → CallF
  | 0, _, _, _ => none
  | k + 1, f, args, h => match E.prim f with
    | some p => p args h
    | none => match E.fns f with
      | none => none
      | some fn => match fn.body with
        | none => none
        | some c => bif Nat.ble args.length fn.ntmps then
            match evCode (evFn E k) E f fn.ntmps k c (setArgs 0 args .e) h with
            | some (.normal, tm, h') => match evRes E.ty tm h' fn.results.toList with
              | some l => some (resOf l, h')
              | none => none
            | some (.ret, tm, h') => match evRes E.ty tm h' fn.results.toList with
              | some l => some (resOf l, h')
              | none => none
            | _ => none
          else none

end Go.Ev
/- Each operation of the abstract machine is the model's: memory. -/
set_option autoImplicit false
set_option linter.unusedSectionVars false
set_option linter.unusedVariables false
set_option linter.unusedSimpArgs false
namespace Go.Ev
variable [Inhabited KA0]

/-! ### 1. What a type's row says -/
def TyOk (P : Program) (ty : Nat → Option TyI) : Prop := ∀ t i, ty t = some i → tyOf P t = some i

theorem tyOf_some {P : Program} {t : Nat} {i : TyI} (h : tyOf P t = some i) :
    ∃ inf d, P.info? t = some inf ∧ P.underlying t = some d ∧ i.kind = kindOf P d ∧ i.sz = inf.size ∧ i.byt = inf.bytes ∧ i.zero = inf.zero.bind ofVal ∧ i.ag = isAggD d := by
  unfold tyOf at h
  split at h
  · rename_i inf d h1 h2
    simp only [Option.some.injEq] at h
    subst h
    exact ⟨inf, d, h1, h2, rfl, rfl, rfl, rfl, rfl⟩
  · simp at h
theorem tyOf_eqf {P : Program} {t : Nat} {i : TyI} (h : tyOf P t = some i) : i.eqf = eqFlat P t := by
  unfold tyOf at h
  split at h
  · simp only [Option.some.injEq] at h
    subst h
    rfl
  · simp at h

theorem all0_some {α β : Type} {f : α → Option β} : ∀ {l : List α} {m : List β}, all0 f l = some m → m.length = l.length ∧ ∀ (i : Nat) y, m[i]? = some y → ∃ x, l[i]? = some x ∧ f x = some y
  | [], m, h => by simp [all0] at h; subst h; exact ⟨rfl, fun i y hy => by simp at hy⟩
  | a :: l, m, h => by
    simp only [all0] at h
    split at h
    · simp at h
    · rename_i b hb
      split at h
      · simp at h
      · rename_i m' hm
        simp only [Option.some.injEq] at h
        subst h
        obtain ⟨h1, h2⟩ := all0_some hm
        refine ⟨by simp [h1], fun i y hy => ?_⟩
        cases i with
        | zero => simp at hy; subst hy; exact ⟨a, rfl, hb⟩
        | succ i => simp at hy; obtain ⟨x, hx, hf⟩ := h2 i y hy; exact ⟨x, by simpa using hx, hf⟩

theorem kind_struct {P : Program} {d : TypeDesc} {fs : List (Nat × Nat × Bool)} (h : TK.st fs = kindOf P d) : ∃ f, d = .struct f ∧ all0 (fieldOf P) f.toList = some fs := by
  unfold kindOf at h
  split at h
  · rename_i f
    split at h
    · rename_i l hl
      simp only [TK.st.injEq] at h
      subst h
      exact ⟨f, rfl, hl⟩
    · simp at h
  all_goals simp at h
theorem kind_slice {P : Program} {d : TypeDesc} {e : Nat} (h : TK.sl e = kindOf P d) : d = .slice e := by
  unfold kindOf at h
  split at h
  · split at h <;> simp at h
  all_goals simp_all
theorem kind_map {P : Program} {d : TypeDesc} {k e : Nat} (h : TK.mp k e = kindOf P d) : d = .map k e := by
  unfold kindOf at h
  split at h
  · split at h <;> simp at h
  all_goals simp_all
theorem kind_str {P : Program} {d : TypeDesc} (h : TK.str = kindOf P d) : d = .string := by
  unfold kindOf at h
  split at h
  · split at h <;> simp at h
  all_goals simp_all
theorem kind_int {P : Program} {d : TypeDesc} {k : IntKind} (h : TK.int k = kindOf P d) : d = .int k := by
  unfold kindOf at h
  split at h
  · split at h <;> simp at h
  all_goals simp_all
theorem kind_bool {P : Program} {d : TypeDesc} (h : TK.bool = kindOf P d) : d = .bool := by
  unfold kindOf at h
  split at h
  · split at h <;> simp at h
  all_goals simp_all
theorem kind_ptr {P : Program} {d : TypeDesc} {e : Nat} (h : TK.ptr e = kindOf P d) : d = .pointer e := by
  unfold kindOf at h
  split at h
  · split at h <;> simp at h
  all_goals simp_all
theorem kind_iface {P : Program} {d : TypeDesc} (h : TK.iface = kindOf P d) : ∃ m, d = .interface m := by
  unfold kindOf at h
  split at h
  · split at h <;> simp at h
  all_goals simp_all

/-! ### 2. Constants -/
theorem ofVal0_VR (G : Gh) (w : World) {v : Value} {x : AV} (h : ofVal0 v = some x) : VR G w v x := by
  unfold ofVal0 at h
  split at h
  all_goals first | (simp only [Option.some.injEq] at h; subst h) | (simp at h; done)
  · exact .bool _
  · exact .int _ _
  · exact .str _
  · exact .ptr0
  · exact .sl0 none 0 _ (fun _ => rfl) rfl
  · exact .map0
  · exact .nilFn
  · exact .nilIface
theorem ofVal_VR (G : Gh) (w : World) {v : Value} {x : AV} (h : ofVal v = some x) : VR G w v x := by
  have arr : ∀ {cs : Array Value} {l : List AV}, all0 ofVal0 cs.toList = some l → cs.size = l.length ∧ ∀ (i : Nat) u y, cs[i]? = some u → l[i]? = some y → VR G w u y := by
    intro cs l hl
    obtain ⟨h1, h2⟩ := all0_some hl
    refine ⟨by simpa using h1.symm, fun i u y hu hy => ?_⟩
    obtain ⟨u', hu', hf⟩ := h2 i y hy
    have : u' = u := by simp at hu'; rw [hu] at hu'; exact (Option.some.inj hu').symm
    subst this
    exact ofVal0_VR G w hf
  unfold ofVal at h
  split at h
  · obtain ⟨l, hl, rfl⟩ := Option.map_eq_some_iff.1 h
    obtain ⟨a, b⟩ := arr hl
    exact .agg _ _ a b
  · obtain ⟨l, hl, rfl⟩ := Option.map_eq_some_iff.1 h
    obtain ⟨a, b⟩ := arr hl
    exact .tup _ _ a b
  · exact ofVal0_VR G w h

/-! ### 3. New blocks -/
def Gh.add (G : Gh) (id b : Nat) : Gh :=
  { G with ρ := fun i => if i = id then some b else G.ρ i, fr := fun c => if c = b then some 0 else G.fr c, ow := fun c => if c = b then some id else G.ow c }

section
variable {P : Program} {G : Gh} {w : World} {h : H}
theorem Inv.fresh (I : Inv G w h) : G.ρ h.nx = none ∧ G.cv h.nx = none ∧ G.fr w.heap.size = none := by
  refine ⟨?_, ?_, ?_⟩
  · cases hr : G.ρ h.nx with
    | none => rfl
    | some b => have := (I.obj _ _ hr).1; omega
  · cases hr : G.cv h.nx with
    | none => rfl
    | some p => obtain ⟨n, v⟩ := p; have := (I.chn _ _ _ hr).1; omega
  · cases hr : G.fr w.heap.size with
    | none => rfl
    | some k => have := (I.frb _ _ hr).2; omega
theorem Inv.get_fresh (I : Inv G w h) : h.t.get h.nx = none := by
  cases hr : h.t.get h.nx with
  | none => rfl
  | some o => have := I.wf _ _ hr; omega

/-- A new block that the abstract heap knows nothing of. -/
theorem alloc_ext (I : Inv G w h) (o : Go.Obj) : Ext G w h G (w.alloc o) h where
  os := rfl
  tape := rfl
  output := rfl
  size := by simp
  base := rfl
  still := fun b hb hf => ⟨heap_alloc_old w o b hb, hf⟩
  part := fun b k q v hf ho hv => ⟨(World.cell?_alloc_lt w o ⟨b, q, none⟩ (World.block_lt_of_cell? w ⟨b, q, none⟩ hv)).trans hv, .inr ⟨k, hf, ho⟩⟩
  ρ := fun _ _ h => h
  cv := fun _ n v h => ⟨n, v, h, Nat.le_refl _, fun _ => rfl⟩
  nx := Nat.le_refl _
  unm := fun _ _ a b => ⟨rfl, a, b⟩
  own := fun b hb ho => ⟨heap_alloc_old w o b hb, rfl, ho⟩
theorem alloc_inv (I : Inv G w h) (o : Go.Obj) : Inv G (w.alloc o) h where
  wf := I.wf
  frb := fun b k hf => ⟨(I.frb b k hf).1, by have := (I.frb b k hf).2; simp; omega⟩
  bas := by have := I.bas; simp; omega
  obj := fun id b hr => by
    obtain ⟨h1, h2, h3, h4⟩ := I.obj id b hr
    refine ⟨h1, h2, h3, ?_⟩
    rw [heap_alloc_old w o b (I.frb b 0 h2).2]
    exact h4.mono (alloc_ext I o)
  chn := fun id n v hc => by
    obtain ⟨h1, g, e, size, xs, cap, h2, h3, h4, h5, h6⟩ := I.chn id n v hc
    exact ⟨h1, g, e, size, xs, cap, h2, h3, h4.alloc o, h5, h6⟩
  ka := I.ka.mono (alloc_ext I o)

/-- A draw. -/
theorem drew_ext (G : Gh) (w : World) (h : H) : Ext G w h G w.drew h :=
  ⟨rfl, rfl, rfl, Nat.le_refl _, rfl, fun _ _ h => ⟨rfl, h⟩, fun _ k _ _ h ho hv => ⟨hv, .inr ⟨k, h, ho⟩⟩, fun _ _ h => h, fun _ n v h => ⟨n, v, h, Nat.le_refl _, fun _ => rfl⟩, Nat.le_refl _, fun _ _ a b => ⟨rfl, a, b⟩, fun _ _ h => ⟨rfl, rfl, h⟩⟩
theorem drew_inv (I : Inv G w h) : Inv G w.drew h where
  wf := I.wf
  frb := I.frb
  bas := I.bas
  obj := fun id b hr => by
    obtain ⟨h1, h2, h3, h4⟩ := I.obj id b hr
    exact ⟨h1, h2, h3, h4.mono (drew_ext G w h)⟩
  chn := fun id n v hc => by
    obtain ⟨h1, g, e, size, xs, cap, h2, h3, h4, h5, h6⟩ := I.chn id n v hc
    exact ⟨h1, g, e, size, xs, cap, h2, h3, h4, h5, h6⟩
  ka := I.ka

/-- An abstract object that lies nowhere yet. -/
theorem new_inv (I : Inv G w h) (o : Obj) : Inv G w (h.new o) where
  wf := fun id p hp => by
    by_cases hi : id = h.nx
    · subst hi; show h.nx < h.nx + 1; omega
    · have : h.t.get id = some p := by rw [← hp]; exact (T.get_set_ne _ _ hi).symm
      have := I.wf _ _ this
      show id < h.nx + 1; omega
  frb := I.frb
  bas := I.bas
  obj := fun id b hr => by
    obtain ⟨h1, h2, h3, h4⟩ := I.obj id b hr
    have e : (h.new o).t.get id = h.t.get id := T.get_set_ne _ _ (by omega)
    exact ⟨by show id < h.nx + 1; omega, h2, h3, by rw [e]; exact h4⟩
  chn := fun id n v hc => by
    obtain ⟨h1, g, e', size, xs, cap, h2, r⟩ := I.chn id n v hc
    have e : (h.new o).t.get id = h.t.get id := T.get_set_ne _ _ (by omega)
    exact ⟨by show id < h.nx + 1; omega, g, e', size, xs, cap, by rw [e]; exact h2, r⟩
  ka := I.ka

/-- A new block for an abstract object that lies nowhere yet. -/
theorem add_ext (I : Inv G w h) (id : Nat) (hi : id < h.nx) (hr : G.ρ id = none) (hc : G.cv id = none) (p : Go.Obj) (h0 : H) (h0n : h0.nx ≤ h.nx)
    (hm : ∀ j, j < h0.nx → G.ρ j = none → G.cv j = none → j ≠ id) (hs : ∀ j, j < h0.nx → h.t.get j = h0.t.get j) : Ext G w h0 (G.add id w.heap.size) (w.alloc p) h where
  os := rfl
  tape := rfl
  output := rfl
  size := by simp
  base := rfl
  still := fun b hb hf => ⟨heap_alloc_old w p b hb, by simp only [Gh.add]; rw [if_neg (by omega)]; exact hf⟩
  part := fun b k q v hf ho hv => by
    have hb := World.block_lt_of_cell? w ⟨b, q, none⟩ hv
    refine ⟨(World.cell?_alloc_lt w p ⟨b, q, none⟩ hb).trans hv, .inr ⟨k, ?_, ho⟩⟩
    simp only [Gh.add]; rw [if_neg (by simp at hb; omega)]; exact hf
  ρ := fun j b hj => by
    simp only [Gh.add]
    split
    · rename_i e; subst e; rw [hr] at hj; cases hj
    · exact hj
  cv := fun _ n v h => ⟨n, v, h, Nat.le_refl _, fun _ => rfl⟩
  nx := h0n
  unm := fun j hj a b => ⟨hs j hj, by simp only [Gh.add]; rw [if_neg (hm j hj a b)]; exact a, b⟩
  own := fun b hb ho => ⟨heap_alloc_old w p b hb, by simp only [Gh.add]; rw [if_neg (by omega)], by simp only [Gh.add]; rw [if_neg (by omega)]; exact ho⟩
theorem add_inv (I : Inv G w h) (id : Nat) (hi : id < h.nx) (hr : G.ρ id = none) (hc : G.cv id = none) (p : Go.Obj) (ho : ObjR G w (h.t.get id) (some p)) :
    Inv (G.add id w.heap.size) (w.alloc p) h := by
  have E : Ext G w ⟨h.t, 0⟩ (G.add id w.heap.size) (w.alloc p) h := add_ext I id hi hr hc p ⟨h.t, 0⟩ (Nat.zero_le _) (fun j hj => absurd hj (by simp)) (fun j _ => rfl)
  refine ⟨I.wf, ?_, by have := I.bas; simp [Gh.add]; omega, ?_, ?_, I.ka.mono E⟩
  · intro b k hf
    simp only [Gh.add] at hf ⊢
    split at hf
    · rename_i e; subst e; exact ⟨I.bas, by simp⟩
    · have := I.frb b k hf; exact ⟨this.1, by simp; omega⟩
  · intro j b hj
    simp only [Gh.add] at hj
    split at hj
    · rename_i e
      simp only [Option.some.injEq] at hj
      subst e; subst hj
      refine ⟨hi, by simp [Gh.add], by simp [Gh.add], ?_⟩
      rw [heap_alloc_new]
      exact ho.mono E
    · obtain ⟨h1, h2, h3, h4⟩ := I.obj j b hj
      have hb : b < w.heap.size := (I.frb b 0 h2).2
      refine ⟨h1, by simp only [Gh.add]; rw [if_neg (by omega)]; exact h2, by simp only [Gh.add]; rw [if_neg (by omega)]; exact h3, ?_⟩
      rw [heap_alloc_old w p b hb]
      exact h4.mono E
  · intro j n v hc'
    obtain ⟨h1, g, e, size, xs, cap, h2, h3, h4, h5, h6, h7⟩ := I.chn j n v hc'
    have hb : g < w.heap.size := (I.frb g _ h5).2
    exact ⟨h1, g, e, size, xs, cap, h2, h3, h4.alloc p, by simp only [Gh.add]; rw [if_neg (by omega)]; exact h5, by simp only [Gh.add]; rw [if_neg (by omega)]; exact h6, h7⟩
/-- Both at once. -/
theorem newAdd (I : Inv G w h) (o : Obj) (p : Go.Obj) (ho : ObjR G w (some o) (some p)) :
    Inv (G.add h.nx w.heap.size) (w.alloc p) (h.new o) ∧ Ext G w h (G.add h.nx w.heap.size) (w.alloc p) (h.new o) := by
  obtain ⟨f1, f2, f3⟩ := I.fresh
  have J := new_inv I o
  have hg : (h.new o).t.get h.nx = some o := T.get_set _ _ _
  refine ⟨add_inv J h.nx (by show h.nx < h.nx + 1; omega) f1 f2 p (by rw [hg]; exact ho), ?_⟩
  exact add_ext J h.nx (by show h.nx < h.nx + 1; omega) f1 f2 p h (by show h.nx ≤ h.nx + 1; omega) (fun j hj _ _ => by omega) (fun j hj => T.get_set_ne _ _ (by omega))
end

end Go.Ev
/- Each operation of the abstract machine is the model's: loads, stores, parts. -/
set_option autoImplicit false
set_option linter.unusedSectionVars false
set_option linter.unusedVariables false
set_option linter.unusedSimpArgs false
namespace Go.Ev
variable [Inhabited KA0]

section
variable {P : Program} {G : Gh} {w : World} {h : H}

theorem run_isAgg {t : Nat} {d : TypeDesc} (h : P.underlying t = some d) : (isAgg t).run P w = .ok (isAggD d) w := by
  unfold isAgg underlying
  simp only [Sem.run_bind, run_program, Result.andThen_ok, h, Sem.run_pure]
  cases d <;> rfl
theorem run_under {t : Nat} {d : TypeDesc} (h : P.underlying t = some d) : (underlying t).run P w = .ok d w := by
  unfold underlying
  simp only [Sem.run_bind, run_program, Result.andThen_ok, h, Sem.run_pure]
theorem run_info {t : Nat} {d : TypeInfo} (h : P.info? t = some d) : (typeInfo t).run P w = .ok d w := by
  unfold typeInfo
  simp only [Sem.run_bind, run_program, Result.andThen_ok, h, Sem.run_pure]
theorem run_sizeOf {t : Nat} {d : TypeInfo} (h : P.info? t = some d) : (sizeOf t).run P w = .ok d.size w := by
  unfold sizeOf
  simp only [Sem.run_bind, run_info h, Result.andThen_ok, Sem.run_pure]
theorem run_zero {t : Nat} {d : TypeInfo} {z : Value} (h : P.info? t = some d) (hz : d.zero = some z) : (zeroValue t).run P w = .ok z w := by
  unfold zeroValue
  simp only [Sem.run_bind, run_info h, Result.andThen_ok, hz, Sem.run_pure]

theorem addr_add (b o j : Nat) : (⟨b, o, none⟩ : Addr).add j = ⟨b, o + j, none⟩ := by
  unfold Addr.add
  split
  · rename_i h; subst h; rfl
  · rfl

theorem readAt_drop {ag : Bool} {sz : Nat} {cs : List AV} {off : Nat} {v : AV} (h : readAt ag sz cs off = some v) : readAt ag sz (cs.drop off) 0 = some v := by
  unfold readAt at *
  cases ag with
  | true =>
    simp only [cond_true] at h ⊢
    cases hb : Nat.ble (off + sz) cs.length with
    | true =>
      rw [hb] at h
      have hle : off + sz ≤ cs.length := Nat.le_of_ble_eq_true hb
      have : Nat.ble (0 + sz) (cs.drop off).length = true := Nat.ble_eq_true_of_le (by rw [List.length_drop]; omega)
      rw [this]
      simpa using h
    | false => rw [hb] at h; simp at h
  | false =>
    simp only [cond_false] at h ⊢
    rw [List.getElem?_drop]
    simpa using h

theorem getElem?_lt' {α : Type} {l : List α} {i : Nat} {x : α} (h : l[i]? = some x) : i < l.length := (List.getElem?_eq_some_iff.1 h).1

/-- A load where the cells are known. -/
theorem load_sim {t : Nat} {inf : TypeInfo} {d : TypeDesc} (hi : P.info? t = some inf) (hd : P.underlying t = some d) (b off : Nat) (cs : List AV) (f : Nat → Value)
    (h1 : ∀ j, j < cs.length → w.cell? ⟨b, off + j, none⟩ = some (f j)) (h2 : ∀ j x, cs[j]? = some x → VR G w (f j) x) {v : AV} (hv : readAt (isAggD d) inf.size cs 0 = some v) :
    ∃ V, (Instr.loadAt t (.pointer (some ⟨b, off, none⟩))).run P w = .ok V w ∧ VR G w V v := by
  unfold Instr.loadAt Instr.sureAddr loadVar
  simp only [Sem.run_bind, Sem.run_pure, Result.andThen_ok, run_isAgg hd]
  unfold readAt at hv
  cases ha : isAggD d with
  | true =>
    rw [ha] at hv
    simp only [cond_true, Nat.zero_add, List.drop_zero] at hv
    cases hb : Nat.ble inf.size cs.length with
    | false => rw [hb] at hv; simp at hv
    | true =>
      rw [hb] at hv
      have hle : inf.size ≤ cs.length := Nat.le_of_ble_eq_true hb
      simp only [cond_true, Option.some.injEq] at hv
      subst hv
      refine ⟨.agg ((List.range inf.size).map f).toArray, ?_, ?_⟩
      · have := run_loadCells (P := P) (w := w) ⟨b, off, none⟩ inf.size f (fun j hj => by rw [addr_add]; exact h1 j (by omega))
        simp only [if_true, Sem.run_bind, run_sizeOf hi, Result.andThen_ok, this, Sem.run_pure]
      · refine .agg _ _ (by simp [Nat.min_eq_left hle]) (fun i u x hu hx => ?_)
        have hu2 : ((List.range inf.size).map f)[i]? = some u := by simpa using hu
        have hi' : i < inf.size := by have := getElem?_lt' hu2; simpa using this
        rw [List.getElem?_map, List.getElem?_range hi'] at hu2
        simp only [Option.map_some, Option.some.injEq] at hu2
        subst hu2
        rw [List.getElem?_take_of_lt hi'] at hx
        exact h2 i x hx
  | false =>
    rw [ha] at hv
    simp only [cond_false] at hv
    have hl : 0 < cs.length := by
      cases cs with
      | nil => simp at hv
      | cons => simp
    refine ⟨f 0, ?_, h2 0 v hv⟩
    have := h1 0 hl
    simp only [Nat.add_zero] at this
    simp [this]

theorem getElem?_lt {α : Type} {l : List α} {i : Nat} {x : α} (h : l[i]? = some x) : i < l.length := (List.getElem?_eq_some_iff.1 h).1

/-- The cells of an object, as the abstract heap has them. -/
theorem Inv.cells (I : Inv G w h) {id b : Nat} {cs : List AV} (hr : G.ρ id = some b) (ho : h.t.get id = some (.cells cs)) :
    ∃ c e, w.heap[b]? = some (.cells c e (0, 0)) ∧ VRs G w c.toList cs := by
  obtain ⟨_, _, _, h4⟩ := I.obj id b hr
  rw [ho] at h4
  match hb : w.heap[b]?, h4 with
  | some (.cells c e fz), h4 =>
    obtain ⟨h5, h6⟩ := h4
    subst h5
    exact ⟨c, e, rfl, h6⟩
theorem Inv.mapAt (I : Inv G w h) {id b : Nat} {es : List (AV × AV)} (hr : G.ρ id = some b) (ho : h.t.get id = some (.map es)) :
    ∃ ents clk, w.heap[b]? = some (.map ents clk) ∧ ents.size = es.length ∧ ∀ (i : Nat) e k x, ents[i]? = some e → es[i]? = some (k, x) → VR G w e.key k ∧ VR G w e.val x := by
  obtain ⟨_, _, _, h4⟩ := I.obj id b hr
  rw [ho] at h4
  match hb : w.heap[b]?, h4 with
  | some (.map ents clk), h4 => exact ⟨ents, clk, rfl, h4⟩

theorem cell_at {c : Array Value} {e : Nat} {fz : Nat × Nat} {b : Nat} (hb : w.heap[b]? = some (.cells c e fz)) (o : Nat) : w.cell? ⟨b, o, none⟩ = c[o]? := by
  simp [World.cell?, hb]

theorem load_ptr (I : Inv G w h) {t : Nat} {inf : TypeInfo} {d : TypeDesc} (hi : P.info? t = some inf) (hd : P.underlying t = some d) {id b off : Nat} {cs : List AV}
    (hr : G.ρ id = some b) (ho : h.t.get id = some (.cells cs)) {v : AV} (hv : readAt (isAggD d) inf.size cs off = some v) :
    ∃ V, (Instr.loadAt t (.pointer (some ⟨b, off, none⟩))).run P w = .ok V w ∧ VR G w V v := by
  obtain ⟨c, e, hb, hc⟩ := I.cells hr ho
  refine load_sim hi hd b off (cs.drop off) (fun j => c.getD (off + j) undef) (fun j hj => ?_) (fun j x hx => ?_) (readAt_drop hv)
  · rw [cell_at hb]
    have : off + j < c.size := by have := hc.1; simp at this hj; omega
    simp [this]
  · rw [List.getElem?_drop] at hx
    have hl := getElem?_lt hx
    have : off + j < c.size := by have := hc.1; simp at this; omega
    exact hc.2 (off + j) _ x (by simp [this]) hx

/-! ### Stores -/
theorem fillAt_length : ∀ (cs : List AV) (o : Nat) (vs : List AV), o + vs.length ≤ cs.length → (fillAt cs o vs).length = cs.length
  | cs, 0, [], _ => by cases cs <;> rfl
  | [], o + 1, vs, h => by simp at h
  | [], 0, _ :: _, h => by simp at h
  | _ :: l, 0, v :: vs, h => by simp only [fillAt, List.length_cons]; rw [fillAt_length l 0 vs (by simp at h ⊢; omega)]
  | c :: l, o + 1, vs, h => by simp only [fillAt, List.length_cons]; rw [fillAt_length l o vs (by simp at h; omega)]
theorem fillAt_eq : ∀ (cs : List AV) (o : Nat) (vs : List AV), o + vs.length ≤ cs.length → fillAt cs o vs = cs.take o ++ vs ++ cs.drop (o + vs.length)
  | cs, 0, [], _ => by cases cs <;> simp [fillAt]
  | [], o + 1, vs, h => by simp at h
  | [], 0, _ :: _, h => by simp at h
  | _ :: l, 0, v :: vs, h => by simp only [fillAt]; rw [fillAt_eq l 0 vs (by simp at h ⊢; omega)]; simp
  | c :: l, o + 1, vs, h => by
    simp only [fillAt]; rw [fillAt_eq l o vs (by simp at h; omega)]
    simp [Nat.add_right_comm]
theorem VRs.take {a : List Value} {c : List AV} (r : VRs G w a c) (n : Nat) : VRs G w (a.take n) (c.take n) := by
  refine ⟨by simp [r.1], fun i u x hu hx => ?_⟩
  rw [List.getElem?_take] at hu hx
  split at hu
  · rename_i hi; rw [if_pos hi] at hx; exact r.2 i u x hu hx
  · cases hu
theorem VRs.drop {a : List Value} {c : List AV} (r : VRs G w a c) (n : Nat) : VRs G w (a.drop n) (c.drop n) := by
  refine ⟨by simp [r.1], fun i u x hu hx => ?_⟩
  rw [List.getElem?_drop] at hu hx
  exact r.2 _ u x hu hx

/-- Only one block is written. -/
structure OnlyAt (w w' : World) (b : Nat) : Prop where
  os : w'.os = w.os
  tape : w'.tape = w.tape
  output : w'.output = w.output
  size : w'.heap.size = w.heap.size
  other : ∀ c, c ≠ b → w'.heap[c]? = w.heap[c]?

/-- An object is written anew where it lies: what else there is stays. -/
theorem put_ext (I : Inv G w h) {id b : Nat} (hr : G.ρ id = some b) (o : Obj) {w' : World} (W : OnlyAt w w' b) : Ext G w h G w' (h.put id o) where
  os := W.os
  tape := W.tape
  output := W.output
  size := Nat.le_of_eq W.size.symm
  base := rfl
  still := fun c hc hf => by
    have hne : c ≠ b := by rintro rfl; have := (I.obj id c hr).2.1; rw [this] at hf; cases hf
    exact ⟨W.other c hne, hf⟩
  part := fun c k q v hf ho hv => by
    have hne : c ≠ b := by
      rintro rfl
      have := (I.obj id c hr).2.1
      rw [this] at hf
      simp only [Option.some.injEq] at hf
      omega
    exact ⟨(World.cell?_of_block (w := w) (a := ⟨c, q, none⟩) (W.other c hne)).trans hv, .inr ⟨k, hf, ho⟩⟩
  ρ := fun _ _ h => h
  cv := fun _ n v h => ⟨n, v, h, Nat.le_refl _, fun _ => rfl⟩
  nx := Nat.le_refl _
  unm := fun j _ a b' => by
    have hne : j ≠ id := by rintro rfl; rw [hr] at a; cases a
    exact ⟨T.get_set_ne _ _ hne, a, b'⟩
  own := fun c hc ho => by
    have hne : c ≠ b := by rintro rfl; have := (I.obj id c hr).2.2.1; rw [this] at ho; cases ho
    exact ⟨W.other c hne, rfl, ho⟩
theorem put_inv (I : Inv G w h) {id b : Nat} (hr : G.ρ id = some b) (o : Obj) {w' : World} (W : OnlyAt w w' b) (ho : ObjR G w (some o) w'.heap[b]?) : Inv G w' (h.put id o) := by
  have E := put_ext I hr o W
  obtain ⟨hi, hf, hw, _⟩ := I.obj id b hr
  refine ⟨fun j q hq => ?_, fun c k hc => by have := I.frb c k hc; exact ⟨this.1, by rw [W.size]; exact this.2⟩, by rw [W.size]; exact I.bas, fun j c hj => ?_, fun j n v hc => ?_, I.ka.mono E⟩
  · by_cases e : j = id
    · subst e; exact hi
    · exact I.wf j q (by rw [← hq]; exact (T.get_set_ne _ _ e).symm)
  · obtain ⟨h1, h2, h3, h4⟩ := I.obj j c hj
    refine ⟨h1, h2, h3, ?_⟩
    by_cases e : j = id
    · subst e
      rw [hr] at hj
      simp only [Option.some.injEq] at hj
      subst hj
      have : (h.put j o).t.get j = some o := T.get_set _ _ _
      rw [this]
      exact ho.mono E
    · have hne : c ≠ b := by
        rintro rfl
        rw [hw] at h3
        simp only [Option.some.injEq] at h3
        exact e h3.symm
      have : (h.put id o).t.get j = h.t.get j := T.get_set_ne _ _ e
      rw [this, W.other c hne]
      exact h4.mono E
  · obtain ⟨h1, g, e, size, xs, cap, h2, h3, h4, h5, h6, h7⟩ := I.chn j n v hc
    have hne : g ≠ b := by
      rintro rfl
      rw [hw] at h6
      simp only [Option.some.injEq] at h6
      subst h6
      have hx := (I.obj id g hr).2.2.2
      rw [h2] at hx
      exact hx.elim
    have hj : j ≠ id := by
      rintro rfl
      have hx := (I.obj j b hr).2.2.2
      rw [h2] at hx
      exact hx.elim
    refine ⟨h1, g, e, size, xs, cap, by rw [← h2]; exact T.get_set_ne _ _ hj, h3, ?_, h5, h6, h7⟩
    refine h4.kept (row := some b) ⟨W.os, W.tape, W.output, Nat.le_of_eq W.size.symm, fun k _ hk => W.other k (fun e => hk (by rw [e]))⟩ (.inr ?_)
    subst h3
    simp [Value.ownBlock, hne]

theorem onlyAt_setRow {b : Nat} {cur cs : Array Value} {e : Nat} {fz : Nat × Nat} (hb : w.heap[b]? = some (.cells cur e fz)) : OnlyAt w (w.setRow b cs) b :=
  ⟨rfl, rfl, rfl, by simp [World.setRow], fun c hc => setRow_other w b c cs (fun e => hc e)⟩

/-- A store into an object. -/
theorem store_sim (I : Inv G w h) {t : Nat} {inf : TypeInfo} (hi : P.info? t = some inf) {id b off : Nat} {cs : List AV} (hr : G.ρ id = some b) (ho : h.t.get id = some (.cells cs))
    {V : Value} {v : AV} (hv : VR G w V v) (hsz : v.cells.length = inf.size) (hfit : off + inf.size ≤ cs.length) (hone : allOne v.cells = true) :
    ∃ w', (Instr.storeAt t (.pointer (some ⟨b, off, none⟩)) V).run P w = .ok () w' ∧ Inv G w' (h.put id (.cells (fillAt cs off v.cells))) ∧ Ext G w h G w' (h.put id (.cells (fillAt cs off v.cells))) := by
  obtain ⟨c, e, hb, hc⟩ := I.cells hr ho
  have hcl := hc.1
  simp at hcl
  have hcv := hv.cells
  have hvl : V.cells.size = inf.size := by have := hcv.1; simp at this; omega
  have h1 : ∀ u ∈ V.cells.toList, u.oneCell' = true := by
    intro u hu
    obtain ⟨i, hi'⟩ := List.getElem?_of_mem hu
    have hil : i < v.cells.length := by rw [← hcv.1]; exact getElem?_lt hi'
    obtain ⟨x, hx⟩ : ∃ x, v.cells[i]? = some x := ⟨_, List.getElem?_eq_getElem hil⟩
    refine (hcv.2 i u x hi' hx).one ?_
    have : ∀ (l : List AV), allOne l = true → ∀ (i : Nat) x, l[i]? = some x → x.one = true := by
      intro l
      induction l with
      | nil => intro _ i x hx; simp at hx
      | cons a l ih =>
        intro hl i x hx
        simp only [allOne, Bool.and_eq_true] at hl
        cases i with
        | zero => simp at hx; subst hx; exact hl.1
        | succ i => simp at hx; exact ih hl.2 i x hx
    exact this _ hone i x hx
  have hst := run_storeCells_at P b off e V.cells.toList 0 c w hb (by simp; omega) h1
  simp only [Nat.add_zero] at hst
  have W : OnlyAt w (w.setRow b (c.toList.take off ++ V.cells.toList ++ c.toList.drop (off + V.cells.toList.length)).toArray) b := onlyAt_setRow hb
  refine ⟨_, ?_, put_inv I hr _ W ?_, put_ext I hr _ W⟩
  · unfold Instr.storeAt Instr.sureAddr storeVar
    simp only [Sem.run_bind, Sem.run_pure, Result.andThen_ok, run_sizeOf hi, hvl, ne_eq, not_true_eq_false, if_false, hst]
  · rw [setRow_heap w b c _ e _ hb]
    refine ⟨rfl, ?_⟩
    rw [fillAt_eq cs off v.cells (by omega)]
    have e1 : off + V.cells.toList.length = off + v.cells.length := by rw [hcv.1]
    rw [e1]
    exact ((hc.take off).append hcv).append (hc.drop _)
end

end Go.Ev
