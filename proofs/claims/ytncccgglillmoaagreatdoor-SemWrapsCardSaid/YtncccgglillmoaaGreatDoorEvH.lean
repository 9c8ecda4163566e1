/- A region that draws its order: whatever order its edges allow, it is what the machine says. -/
import Derived.Test.YtncccgglillmoaaGreatDoorEvJ
set_option autoImplicit false
set_option linter.unusedSectionVars false
set_option linter.unusedVariables false
set_option linter.unusedSimpArgs false
namespace Go.Ev
variable [Inhabited KA0] [MT]

/-! ### 1. Which operations do not act -/
def pureB (o : Op) : Bool := match opKind o with | .pure => true | _ => false
def readB (o : Op) : Bool := match opKind o with | .read => true | _ => false
def allocB (o : Op) : Bool := match opKind o with | .new => true | _ => false
def quietB (o : Op) : Bool := match opKind o with | .write => false | _ => true

theorem pure_any {ty : Nat → Option TyI} {tm : Tm} {h h' : H} {o : Op} {v : AV} (hp : opKind o = .pure) (he : evOp ty tm h o = some (v, h')) : h' = h ∧ ∀ h2, evOp ty tm h2 o = some (v, h2) := by
  unfold evOp at he ⊢
  rw [hp] at he ⊢
  simp only at he ⊢
  cases hv : evPure ty tm o with
  | none => rw [hv] at he; simp at he
  | some u =>
    rw [hv] at he
    simp only [Option.some.injEq, Prod.mk.injEq] at he
    obtain ⟨rfl, rfl⟩ := he
    exact ⟨rfl, fun h2 => rfl⟩
theorem new_get {h : H} (wf : ∀ id p, h.t.get id = some p → id < h.nx) {ob : Obj} {id : Nat} {p : Obj} (hg : h.t.get id = some p) : (h.new ob).t.get id = some p := by
  have := wf id p hg
  exact (T.get_set_ne _ _ (by omega)).trans hg
theorem read_new {ty : Nat → Option TyI} {tm : Tm} {h : H} {o : Op} {v : AV} (he : evRead ty tm h o = some v) (ob : Obj) (wf : ∀ id p, h.t.get id = some p → id < h.nx) : evRead ty tm (h.new ob) o = some v := by
  cases o <;> simp only [evRead] at he ⊢ <;> try (simp at he; done)
  case load t a =>
    repeat' split at he
    all_goals first
      | (simp at he; done)
      | (simp [*]; done)
      | (rename_i hg; have := new_get wf (ob := ob) hg; simp [*]; done)
  case lookup t m k ok =>
    split at he
    · split at he
      · cases hk : keyOk _ _ _ with
        | false => simp [hk] at he
        | true =>
          simp only [hk, cond_true] at he ⊢
          split at he
          · exact he
          · split at he
            · rename_i hg
              rw [new_get wf hg]
              exact he
            · simp at he
          · simp at he
      · simp at he
    · simp at he
  case call c =>
    split at he
    · split at he
      · split at he
        · simp at he
        · split at he
          · simpa [*] using he
          · simpa [*] using he
          · simpa [*] using he
          · exact he
          · split at he
            · rename_i hg
              rw [new_get wf hg]
              simpa [*] using he
            · simp at he
          · simp at he
      · simp at he
    · exact he
    · exact he
    · simp at he
theorem read_same {ty : Nat → Option TyI} {tm : Tm} {h h' : H} {o : Op} {v : AV} (hp : opKind o = .read) (he : evOp ty tm h o = some (v, h')) :
    h' = h ∧ ∀ ob, (∀ id p, h.t.get id = some p → id < h.nx) → evOp ty tm (h.new ob) o = some (v, h.new ob) := by
  unfold evOp at he ⊢
  rw [hp] at he ⊢
  simp only at he ⊢
  cases hv : evRead ty tm h o with
  | none => rw [hv] at he; simp at he
  | some u =>
    rw [hv] at he
    simp only [Option.some.injEq, Prod.mk.injEq] at he
    obtain ⟨rfl, rfl⟩ := he
    exact ⟨rfl, fun ob wf => by rw [read_new hv ob wf]⟩
theorem alloc_any {ty : Nat → Option TyI} {tm : Tm} {h h' : H} {o : Op} {v : AV} (hp : opKind o = .new) (he : evOp ty tm h o = some (v, h')) :
    ∃ (obj : Obj) (vOf : Nat → AV), h' = h.new obj ∧ v = vOf h.nx ∧ evNew ty tm o = some (obj, vOf) := by
  unfold evOp at he
  rw [hp] at he
  simp only at he
  cases hv : evNew ty tm o with
  | none => rw [hv] at he; simp at he
  | some u =>
    obtain ⟨ob, f⟩ := u
    rw [hv] at he
    simp only [Option.some.injEq, Prod.mk.injEq] at he
    obtain ⟨rfl, rfl⟩ := he
    exact ⟨ob, f, rfl, rfl, rfl⟩
theorem allVals_congr {tm tm' : Tm} : ∀ (l : List Operand), (∀ x ∈ l, val tm x = val tm' x) → allVals tm l = allVals tm' l
  | [], _ => rfl
  | x :: l, h => by simp only [allVals]; rw [h x (by simp), allVals_congr l fun y hy => h y (by simp [hy])]
theorem optVal_congr {tm tm' : Tm} : ∀ (o : Option Operand), (∀ x ∈ o.toArray, val tm x = val tm' x) → optVal tm o = optVal tm' o
  | none, _ => rfl
  | some x, h => by simp only [optVal]; rw [h x (by simp)]
theorem evPure_congr {ty : Nat → Option TyI} {tm tm' : Tm} {o : Op} (hv : ∀ x ∈ o.operands, val tm x = val tm' x) : evPure ty tm o = evPure ty tm' o := by
  cases o <;> simp only [evPure]
  case build t ps =>
    rw [allVals_congr (tm := tm) (tm' := tm') (ps.toList.map (·.2)) fun x hx => hv x (by simpa [Op.operands] using hx)]
  case buildSlice t n ps =>
    rw [allVals_congr (tm := tm) (tm' := tm') (ps.toList.map (·.2)) fun x hx => hv x (by simpa [Op.operands] using hx)]
  case makeFunc fn first captured =>
    rw [allVals_congr (tm := tm) (tm' := tm') first.toList fun x hx => hv x (by simp [Op.operands] at hx ⊢; exact .inl hx),
      allVals_congr (tm := tm) (tm' := tm') captured.toList fun x hx => hv x (by simp [Op.operands] at hx ⊢; exact .inr hx)]
  case slice t x lo hi mx =>
    rw [hv x (by simp [Op.operands]), optVal_congr (tm := tm) (tm' := tm') lo fun y hy => hv y (by simp [Op.operands] at hy ⊢; simp [hy]),
      optVal_congr (tm := tm) (tm' := tm') hi fun y hy => hv y (by simp [Op.operands] at hy ⊢; simp [hy]), optVal_congr (tm := tm) (tm' := tm') mx fun y hy => hv y (by simp [Op.operands] at hy ⊢; simp [hy])]
  case move x => exact hv x (by simp [Op.operands])
  case assign x => exact hv x (by simp [Op.operands])
  case pick c a b => rw [hv c (by simp [Op.operands]), hv a (by simp [Op.operands]), hv b (by simp [Op.operands])]
  case nilCheck x => rw [hv x (by simp [Op.operands])]
  case binOp op t x y u => rw [hv x (by simp [Op.operands]), hv y (by simp [Op.operands])]
  case unOp op t x => rw [hv x (by simp [Op.operands])]
  case convert s d x => rw [hv x (by simp [Op.operands])]
  case makeInterface t x => rw [hv x (by simp [Op.operands])]
  case fieldAddr s x f => rw [hv x (by simp [Op.operands])]
  case field s x f => rw [hv x (by simp [Op.operands])]
  case indexAddr t x i => rw [hv x (by simp [Op.operands]), hv i (by simp [Op.operands])]
  case index t x i => rw [hv x (by simp [Op.operands]), hv i (by simp [Op.operands])]
  case extract x i => rw [hv x (by simp [Op.operands])]
theorem evRead_congr {ty : Nat → Option TyI} {tm tm' : Tm} {h : H} {o : Op} (hv : ∀ x ∈ o.operands, val tm x = val tm' x) : evRead ty tm h o = evRead ty tm' h o := by
  cases o <;> simp only [evRead]
  case load t a => rw [hv a (by simp [Op.operands])]
  case lookup t m k ok => rw [hv m (by simp [Op.operands]), hv k (by simp [Op.operands])]
  case call c => rw [allVals_congr (tm := tm) (tm' := tm') c.args.toList fun x hx => hv x (by simp [Op.operands, Call.operands] at hx ⊢; exact .inr hx)]
theorem evNew_congr {ty : Nat → Option TyI} {tm tm' : Tm} {o : Op} (hv : ∀ x ∈ o.operands, val tm x = val tm' x) : evNew ty tm o = evNew ty tm' o := by
  cases o <;> simp only [evNew]
  case box t x => rw [hv x (by simp [Op.operands])]
  case buildSlice t n ps =>
    rw [allVals_congr (tm := tm) (tm' := tm') (ps.toList.map (·.2)) fun x hx => hv x (by simpa [Op.operands] using hx)]
theorem evOp_congr {ty : Nat → Option TyI} {tm tm' : Tm} {h : H} {o : Op} (hq : quietB o = true) (hv : ∀ x ∈ o.operands, val tm x = val tm' x) : evOp ty tm h o = evOp ty tm' h o := by
  unfold quietB at hq
  unfold evOp
  cases hk : opKind o <;> rw [hk] at hq <;> simp only [Bool.false_eq_true] at hq ⊢
  · rw [evPure_congr hv]
  · rw [evRead_congr hv]
  · rw [evNew_congr hv]

/-- What making a new object does, wherever its number was given. -/
def AllocOk (P : Program) (ty : Nat → Option TyI) : Prop :=
  ∀ G w (h : H) tm (a : Act) (o : Oper) (obj : Obj) (vOf : Nat → AV) (id : Nat), Inv G w h → opKind o.op = .new → evNew ty tm o.op = some (obj, vOf) →
    (∀ x ∈ o.op.operands, ∀ u, val tm x = some u → VR G w (a.eval x) u) → id < h.nx → G.ρ id = none → G.cv id = none → h.t.get id = some obj →
    ∃ V p G', (execOp a.eval o).run P w = .ok (.value V) (w.alloc p) ∧ AddR G w h id G' (w.alloc p) ∧ VR G' (w.alloc p) V (vOf id)

/-! ### 2. The look at a region -/
def depsOf (ops : Array Oper) (i : Nat) : List Nat :=
  match ops[i]? with
  | none => []
  | some o => (o.after.toList.filter (Region.binds .any)).map (·.on)
def maskOf (m : T Nat) : List Nat → Nat → Nat
  | [], s => s
  | d :: l, s => maskOf m l (s ||| 2 ^ d ||| (m.get d).getD 0)
def preM (ops : Array Oper) : List PE → T Nat → T Nat
  | [], m => m
  | p :: r, m => preM ops r (m.set p.i (maskOf m (depsOf ops p.i) 0))
def preB (m : T Nat) (i j : Nat) : Bool := ((m.get i).getD 0).testBit j
def looks (ops : Array Oper) (i : Nat) : List Nat :=
  match ops[i]? with
  | none => []
  | some o => o.looksAt ops
def dstOf (ops : Array Oper) (i : Nat) : Option Nat := (ops[i]?).bind (·.dst)
def dstIn (d : Option Nat) (l : List Nat) : Bool :=
  match d with
  | none => false
  | some d => l.contains d
def dstSame (d e : Option Nat) : Bool :=
  match d, e with
  | some a, some b => Nat.beq a b
  | _, _ => false
def opB (f : Op → Bool) (ops : Array Oper) (i : Nat) : Bool :=
  match ops[i]? with
  | none => false
  | some o => f o.op
/-- p ahead of q. -/
def pairOk (ops : Array Oper) (m : T Nat) (p q : PE) : Bool :=
  (!p.eff || preB m q.i p.i) &&
  ((!(dstIn (dstOf ops p.i) (looks ops q.i) || dstSame (dstOf ops p.i) (dstOf ops q.i)) || preB m q.i p.i) &&
  ((!(dstIn (dstOf ops q.i) (looks ops p.i) || dstSame (dstOf ops p.i) (dstOf ops q.i)) || (q.eff && preB m q.i p.i)) &&
  (p.eff || !q.eff || !opB readB ops p.i || preB m q.i p.i || q.chk.contains p.i)))
def selfOk (ops : Array Oper) (p : PE) : Bool := p.eff || (opB quietB ops p.i && !dstIn (dstOf ops p.i) (looks ops p.i))
def pairsOk (ops : Array Oper) (m : T Nat) : List PE → Bool
  | [] => true
  | p :: r => selfOk ops p && (r.all (pairOk ops m p) && (!(r.any fun q => Nat.beq q.i p.i) && pairsOk ops m r))
def topoOk (ops : Array Oper) : List Nat → List PE → Bool
  | _, [] => true
  | seen, p :: r => (depsOf ops p.i).all (fun d => seen.contains d) && topoOk ops (p.i :: seen) r
def planOk (ops : Array Oper) (pl : List PE) : Bool :=
  topoOk ops [] pl && (pairsOk ops (preM ops pl .e) pl && ((List.range ops.size).all (fun k => pl.any fun p => Nat.beq p.i k) && (pl.all (fun p => Nat.blt p.i ops.size) && Region.noSelect ops)))

theorem maskOf_bit (m : T Nat) : ∀ (l : List Nat) (s j : Nat), (maskOf m l s).testBit j = true → s.testBit j = true ∨ ∃ d ∈ l, d = j ∨ ((m.get d).getD 0).testBit j = true
  | [], s, j, h => .inl h
  | d :: l, s, j, h => by
    simp only [maskOf] at h
    rcases maskOf_bit m l _ j h with h | ⟨e, he, h⟩
    · rw [Nat.testBit_or, Nat.testBit_or, Bool.or_eq_true, Bool.or_eq_true] at h
      rcases h with (h | h) | h
      · exact .inl h
      · rw [Nat.testBit_two_pow] at h
        exact .inr ⟨d, by simp, .inl (by simpa using h)⟩
      · exact .inr ⟨d, by simp, .inr h⟩
    · exact .inr ⟨e, by simp [he], h⟩

/-- What is listed is listed with all that it waits for. -/
def Down (ops : Array Oper) (listed : Array Bool) : Prop := ∀ i, listed.getD i false = true → ∀ d ∈ depsOf ops i, listed.getD d false = true

theorem preM_down {ops : Array Oper} {listed : Array Bool} (D : Down ops listed) : ∀ (pl : List PE) (m : T Nat),
    (∀ i j, preB m i j = true → listed.getD i false = true → listed.getD j false = true) → ∀ i j, preB (preM ops pl m) i j = true → listed.getD i false = true → listed.getD j false = true
  | [], m, hm, i, j, h, hi => hm i j h hi
  | p :: r, m, hm, i, j, h, hi => by
    refine preM_down D r _ (fun i j h hi => ?_) i j h hi
    unfold preB at h
    by_cases e : i = p.i
    · subst e
      rw [T.get_set] at h
      simp only [Option.getD_some] at h
      rcases maskOf_bit m _ _ _ h with h | ⟨d, hd, rfl | h⟩
      · simp at h
      · exact D _ hi _ hd
      · exact hm d j h (D _ hi _ hd)
    · rw [T.get_set_ne _ _ e] at h
      exact hm i j h hi

/-! ### 3. What is put off -/
structure Pd where
  i : Nat
  id : Option Nat

/-- An operation that was carried out by the machine, and can be carried out now. -/
def PdOk (ty : Nat → Option TyI) (ops : Array Oper) (n : Nat) (tm : Tm) (h : H) (p : Pd) : Prop :=
  ∃ o v, ops[p.i]? = some o ∧ quietB o.op = true ∧ (∀ d, o.dst = some d → d < n ∧ tm.get d = some v) ∧
    ((p.id = none ∧ wantedA ops tm o = some false ∧ v = .tup []) ∨
     (p.id = none ∧ wantedA ops tm o = some true ∧ allocB o.op = false ∧ evOp ty tm h o.op = some (v, h)) ∨
     (∃ (id : Nat) (obj : Obj) (vOf : Nat → AV), p.id = some id ∧ wantedA ops tm o = some true ∧ opKind o.op = .new ∧ id < h.nx ∧ h.t.get id = some obj ∧ v = vOf id ∧ evNew ty tm o.op = some (obj, vOf)))

end Go.Ev
