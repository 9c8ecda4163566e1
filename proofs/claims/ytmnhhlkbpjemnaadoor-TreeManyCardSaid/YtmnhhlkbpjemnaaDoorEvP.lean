/- A region that draws its order: whatever order its edges allow, it is what the machine says. -/
import Derived.Test.YtmnhhlkbpjemnaaDoorEvJ
import Derived.Test.YtmnhhlkbpjemnaaDoorEvO
set_option autoImplicit false
set_option linter.unusedSectionVars false
set_option linter.unusedVariables false
set_option linter.unusedSimpArgs false
namespace Go.Ev
variable [Inhabited KA0]

/-! ### 1. Which operations do not act -/
def pureB (o : Op) : Bool := match opKind o with | .pure => true | _ => false
def readB (o : Op) : Bool := match opKind o with | .read => true | _ => false
def allocB (o : Op) : Bool := match opKind o with | .new => true | _ => false
def quietB (o : Op) : Bool := match opKind o with | .write => false | _ => true

theorem pure_any {ty : Nat → Option TyI} {tm : Tm} {h h' : H} {o : Op} {v : AV} (hp : opKind o = .pure) (he : evOp ty tm h o = some (v, h')) : h' = h ∧ ∀ h2, evOp ty tm h2 o = some (v, h2) := by
  unfold evOp at he ⊢
  rw [hp] at he ⊢
  simp only at he ⊢
  cases hv : evPure ty tm o with
  | none => rw [hv] at he; simp at he
  | some u =>
    rw [hv] at he
    simp only [Option.some.injEq, Prod.mk.injEq] at he
    obtain ⟨rfl, rfl⟩ := he
    exact ⟨rfl, fun h2 => rfl⟩
theorem new_get {h : H} (wf : ∀ id p, h.t.get id = some p → id < h.nx) {ob : Obj} {id : Nat} {p : Obj} (hg : h.t.get id = some p) : (h.new ob).t.get id = some p := by
  have := wf id p hg
  exact (T.get_set_ne _ _ (by omega)).trans hg
theorem read_new {ty : Nat → Option TyI} {tm : Tm} {h : H} {o : Op} {v : AV} (he : evRead ty tm h o = some v) (ob : Obj) (wf : ∀ id p, h.t.get id = some p → id < h.nx) : evRead ty tm (h.new ob) o = some v := by
  cases o <;> simp only [evRead] at he ⊢ <;> try (simp at he; done)
  case load t a =>
    repeat' split at he
    all_goals first
      | (simp at he; done)
      | (simp [*]; done)
      | (rename_i hg; have := new_get wf (ob := ob) hg; simp [*]; done)
  case lookup t m k ok =>
    split at he
    · split at he
      · cases hk : keyOk _ _ with
        | false => simp [hk] at he
        | true =>
          simp only [hk, cond_true] at he ⊢
          split at he
          · exact he
          · split at he
            · rename_i hg
              rw [new_get wf hg]
              exact he
            · simp at he
          · simp at he
      · simp at he
    · simp at he
  case call c =>
    split at he
    · split at he
      · split at he
        · simp at he
        · split at he
          · simpa [*] using he
          · simpa [*] using he
          · exact he
          · split at he
            · rename_i hg
              rw [new_get wf hg]
              simpa [*] using he
            · simp at he
          · simp at he
      · simp at he
    · exact he
    · exact he
    · simp at he
theorem read_same {ty : Nat → Option TyI} {tm : Tm} {h h' : H} {o : Op} {v : AV} (hp : opKind o = .read) (he : evOp ty tm h o = some (v, h')) :
    h' = h ∧ ∀ ob, (∀ id p, h.t.get id = some p → id < h.nx) → evOp ty tm (h.new ob) o = some (v, h.new ob) := by
  unfold evOp at he ⊢
  rw [hp] at he ⊢
  simp only at he ⊢
  cases hv : evRead ty tm h o with
  | none => rw [hv] at he; simp at he
  | some u =>
    rw [hv] at he
    simp only [Option.some.injEq, Prod.mk.injEq] at he
    obtain ⟨rfl, rfl⟩ := he
    exact ⟨rfl, fun ob wf => by rw [read_new hv ob wf]⟩
theorem alloc_any {ty : Nat → Option TyI} {tm : Tm} {h h' : H} {o : Op} {v : AV} (hp : opKind o = .new) (he : evOp ty tm h o = some (v, h')) :
    ∃ (obj : Obj) (vOf : Nat → AV), h' = h.new obj ∧ v = vOf h.nx ∧ evNew ty tm o = some (obj, vOf) := by
  unfold evOp at he
  rw [hp] at he
  simp only at he
  cases hv : evNew ty tm o with
  | none => rw [hv] at he; simp at he
  | some u =>
    obtain ⟨ob, f⟩ := u
    rw [hv] at he
    simp only [Option.some.injEq, Prod.mk.injEq] at he
    obtain ⟨rfl, rfl⟩ := he
    exact ⟨ob, f, rfl, rfl, rfl⟩
theorem allVals_congr {tm tm' : Tm} : ∀ (l : List Operand), (∀ x ∈ l, val tm x = val tm' x) → allVals tm l = allVals tm' l
  | [], _ => rfl
  | x :: l, h => by simp only [allVals]; rw [h x (by simp), allVals_congr l fun y hy => h y (by simp [hy])]
theorem optVal_congr {tm tm' : Tm} : ∀ (o : Option Operand), (∀ x ∈ o.toArray, val tm x = val tm' x) → optVal tm o = optVal tm' o
  | none, _ => rfl
  | some x, h => by simp only [optVal]; rw [h x (by simp)]
theorem evPure_congr {ty : Nat → Option TyI} {tm tm' : Tm} {o : Op} (hv : ∀ x ∈ o.operands, val tm x = val tm' x) : evPure ty tm o = evPure ty tm' o := by
  cases o <;> simp only [evPure]
  case build t ps =>
    rw [allVals_congr (tm := tm) (tm' := tm') (ps.toList.map (·.2)) fun x hx => hv x (by simpa [Op.operands] using hx)]
  case buildSlice t n ps =>
    rw [allVals_congr (tm := tm) (tm' := tm') (ps.toList.map (·.2)) fun x hx => hv x (by simpa [Op.operands] using hx)]
  case makeFunc fn first captured =>
    rw [allVals_congr (tm := tm) (tm' := tm') first.toList fun x hx => hv x (by simp [Op.operands] at hx ⊢; exact .inl hx),
      allVals_congr (tm := tm) (tm' := tm') captured.toList fun x hx => hv x (by simp [Op.operands] at hx ⊢; exact .inr hx)]
  case slice t x lo hi mx =>
    rw [hv x (by simp [Op.operands]), optVal_congr (tm := tm) (tm' := tm') lo fun y hy => hv y (by simp [Op.operands] at hy ⊢; simp [hy]),
      optVal_congr (tm := tm) (tm' := tm') hi fun y hy => hv y (by simp [Op.operands] at hy ⊢; simp [hy]), optVal_congr (tm := tm) (tm' := tm') mx fun y hy => hv y (by simp [Op.operands] at hy ⊢; simp [hy])]
  case move x => exact hv x (by simp [Op.operands])
  case assign x => exact hv x (by simp [Op.operands])
  case pick c a b => rw [hv c (by simp [Op.operands]), hv a (by simp [Op.operands]), hv b (by simp [Op.operands])]
  case nilCheck x => rw [hv x (by simp [Op.operands])]
  case binOp op t x y u => rw [hv x (by simp [Op.operands]), hv y (by simp [Op.operands])]
  case unOp op t x => rw [hv x (by simp [Op.operands])]
  case convert s d x => rw [hv x (by simp [Op.operands])]
  case makeInterface t x => rw [hv x (by simp [Op.operands])]
  case fieldAddr s x f => rw [hv x (by simp [Op.operands])]
  case field s x f => rw [hv x (by simp [Op.operands])]
  case indexAddr t x i => rw [hv x (by simp [Op.operands]), hv i (by simp [Op.operands])]
  case index t x i => rw [hv x (by simp [Op.operands]), hv i (by simp [Op.operands])]
  case extract x i => rw [hv x (by simp [Op.operands])]
theorem evRead_congr {ty : Nat → Option TyI} {tm tm' : Tm} {h : H} {o : Op} (hv : ∀ x ∈ o.operands, val tm x = val tm' x) : evRead ty tm h o = evRead ty tm' h o := by
  cases o <;> simp only [evRead]
  case load t a => rw [hv a (by simp [Op.operands])]
  case lookup t m k ok => rw [hv m (by simp [Op.operands]), hv k (by simp [Op.operands])]
  case call c => rw [allVals_congr (tm := tm) (tm' := tm') c.args.toList fun x hx => hv x (by simp [Op.operands, Call.operands] at hx ⊢; exact .inr hx)]
theorem evNew_congr {ty : Nat → Option TyI} {tm tm' : Tm} {o : Op} (hv : ∀ x ∈ o.operands, val tm x = val tm' x) : evNew ty tm o = evNew ty tm' o := by
  cases o <;> simp only [evNew]
  case box t x => rw [hv x (by simp [Op.operands])]
theorem evOp_congr {ty : Nat → Option TyI} {tm tm' : Tm} {h : H} {o : Op} (hq : quietB o = true) (hv : ∀ x ∈ o.operands, val tm x = val tm' x) : evOp ty tm h o = evOp ty tm' h o := by
  unfold quietB at hq
  unfold evOp
  cases hk : opKind o <;> rw [hk] at hq <;> simp only [Bool.false_eq_true] at hq ⊢
  · rw [evPure_congr hv]
  · rw [evRead_congr hv]
  · rw [evNew_congr hv]

/-- What making a new object does, wherever its number was given. -/
def AllocOk (P : Program) (ty : Nat → Option TyI) : Prop :=
  ∀ G w (h : H) tm (a : Act) (o : Oper) (obj : Obj) (vOf : Nat → AV) (id : Nat), Inv G w h → opKind o.op = .new → evNew ty tm o.op = some (obj, vOf) →
    (∀ x ∈ o.op.operands, ∀ u, val tm x = some u → VR G w (a.eval x) u) → id < h.nx → G.ρ id = none → G.cv id = none → h.t.get id = some obj →
    ∃ V p, (execOp a.eval o).run P w = .ok (.value V) (w.alloc p) ∧ ObjR G w (some obj) (some p) ∧ VR (G.add id w.heap.size) (w.alloc p) V (vOf id)

/-! ### 2. The look at a region -/
def depsOf (ops : Array Oper) (i : Nat) : List Nat :=
  match ops[i]? with
  | none => []
  | some o => (o.after.toList.filter (Region.binds .any)).map (·.on)
def maskOf (m : T Nat) : List Nat → Nat → Nat
  | [], s => s
  | d :: l, s => maskOf m l (s ||| 2 ^ d ||| (m.get d).getD 0)
def preM (ops : Array Oper) : List PE → T Nat → T Nat
  | [], m => m
  | p :: r, m => preM ops r (m.set p.i (maskOf m (depsOf ops p.i) 0))
def preB (m : T Nat) (i j : Nat) : Bool := ((m.get i).getD 0).testBit j
def looks (ops : Array Oper) (i : Nat) : List Nat :=
  match ops[i]? with
  | none => []
  | some o => o.looksAt ops
def dstOf (ops : Array Oper) (i : Nat) : Option Nat := (ops[i]?).bind (·.dst)
def dstIn (d : Option Nat) (l : List Nat) : Bool :=
  match d with
  | none => false
  | some d => l.contains d
def dstSame (d e : Option Nat) : Bool :=
  match d, e with
  | some a, some b => Nat.beq a b
  | _, _ => false
def opB (f : Op → Bool) (ops : Array Oper) (i : Nat) : Bool :=
  match ops[i]? with
  | none => false
  | some o => f o.op
/-- p ahead of q. -/
def pairOk (ops : Array Oper) (m : T Nat) (p q : PE) : Bool :=
  (!p.eff || preB m q.i p.i) &&
  ((!(dstIn (dstOf ops p.i) (looks ops q.i) || dstSame (dstOf ops p.i) (dstOf ops q.i)) || preB m q.i p.i) &&
  ((!(dstIn (dstOf ops q.i) (looks ops p.i) || dstSame (dstOf ops p.i) (dstOf ops q.i)) || (q.eff && preB m q.i p.i)) &&
  (p.eff || !q.eff || !opB readB ops p.i || preB m q.i p.i || q.chk.contains p.i)))
def selfOk (ops : Array Oper) (p : PE) : Bool := p.eff || (opB quietB ops p.i && !dstIn (dstOf ops p.i) (looks ops p.i))
def pairsOk (ops : Array Oper) (m : T Nat) : List PE → Bool
  | [] => true
  | p :: r => selfOk ops p && (r.all (pairOk ops m p) && (!(r.any fun q => Nat.beq q.i p.i) && pairsOk ops m r))
def topoOk (ops : Array Oper) : List Nat → List PE → Bool
  | _, [] => true
  | seen, p :: r => (depsOf ops p.i).all (fun d => seen.contains d) && topoOk ops (p.i :: seen) r
def planOk (ops : Array Oper) (pl : List PE) : Bool :=
  topoOk ops [] pl && (pairsOk ops (preM ops pl .e) pl && ((List.range ops.size).all (fun k => pl.any fun p => Nat.beq p.i k) && (pl.all (fun p => Nat.blt p.i ops.size) && Region.noSelect ops)))

theorem maskOf_bit (m : T Nat) : ∀ (l : List Nat) (s j : Nat), (maskOf m l s).testBit j = true → s.testBit j = true ∨ ∃ d ∈ l, d = j ∨ ((m.get d).getD 0).testBit j = true
  | [], s, j, h => .inl h
  | d :: l, s, j, h => by
    simp only [maskOf] at h
    rcases maskOf_bit m l _ j h with h | ⟨e, he, h⟩
    · rw [Nat.testBit_or, Nat.testBit_or, Bool.or_eq_true, Bool.or_eq_true] at h
      rcases h with (h | h) | h
      · exact .inl h
      · rw [Nat.testBit_two_pow] at h
        exact .inr ⟨d, by simp, .inl (by simpa using h)⟩
      · exact .inr ⟨d, by simp, .inr h⟩
    · exact .inr ⟨e, by simp [he], h⟩

/-- What is listed is listed with all that it waits for. -/
def Down (ops : Array Oper) (listed : Array Bool) : Prop := ∀ i, listed.getD i false = true → ∀ d ∈ depsOf ops i, listed.getD d false = true

theorem preM_down {ops : Array Oper} {listed : Array Bool} (D : Down ops listed) : ∀ (pl : List PE) (m : T Nat),
    (∀ i j, preB m i j = true → listed.getD i false = true → listed.getD j false = true) → ∀ i j, preB (preM ops pl m) i j = true → listed.getD i false = true → listed.getD j false = true
  | [], m, hm, i, j, h, hi => hm i j h hi
  | p :: r, m, hm, i, j, h, hi => by
    refine preM_down D r _ (fun i j h hi => ?_) i j h hi
    unfold preB at h
    by_cases e : i = p.i
    · subst e
      rw [T.get_set] at h
      simp only [Option.getD_some] at h
      rcases maskOf_bit m _ _ _ h with h | ⟨d, hd, rfl | h⟩
      · simp at h
      · exact D _ hi _ hd
      · exact hm d j h (D _ hi _ hd)
    · rw [T.get_set_ne _ _ e] at h
      exact hm i j h hi

/-! ### 3. What is put off -/
structure Pd where
  i : Nat
  id : Option Nat

/-- An operation that was carried out by the machine, and can be carried out now. -/
def PdOk (ty : Nat → Option TyI) (ops : Array Oper) (n : Nat) (tm : Tm) (h : H) (p : Pd) : Prop :=
  ∃ o v, ops[p.i]? = some o ∧ quietB o.op = true ∧ (∀ d, o.dst = some d → d < n ∧ tm.get d = some v) ∧
    ((p.id = none ∧ wantedA ops tm o = some false ∧ v = .tup []) ∨
     (p.id = none ∧ wantedA ops tm o = some true ∧ allocB o.op = false ∧ evOp ty tm h o.op = some (v, h)) ∨
     (∃ (id : Nat) (obj : Obj) (vOf : Nat → AV), p.id = some id ∧ wantedA ops tm o = some true ∧ opKind o.op = .new ∧ id < h.nx ∧ h.t.get id = some obj ∧ v = vOf id ∧ evNew ty tm o.op = some (obj, vOf)))

end Go.Ev
/- Each operation of the abstract machine is the model's: what looks into memory, and what writes. -/
set_option autoImplicit false
set_option linter.unusedSectionVars false
set_option linter.unusedVariables false
set_option linter.unusedSimpArgs false
namespace Go.Ev
variable [Inhabited KA0]
theorem bytes_beq (a b : ByteArray) : (a == b) = true ↔ a = b := by
  obtain ⟨x⟩ := a
  obtain ⟨y⟩ := b
  constructor
  · intro h
    have e : x = y := by simpa using (show (x == y) = true from h)
    rw [e]
  · intro h
    injection h with h
    subst h
    show (x == x) = true
    simp

section
variable {P : Program} {G : Gh} {w : World} {h : H}

def KindD (d : TypeDesc) (key : AV) : Prop := match d, key with
  | .int j, .int k _ => j = k
  | .string, .str _ => True
  | _, _ => False
theorem keyOk_spec {d : TypeDesc} {key : AV} (hk : keyOk (kindOf P d) key = true) : KindD d key := by
  generalize hq : kindOf P d = kk at hk
  unfold keyOk at hk
  split at hk
  · have := kind_int hq.symm
    subst this
    exact ikBeq_eq.1 hk
  · have := kind_str hq.symm
    subst this
    trivial
  · simp at hk
theorem run_checkKey {kt : Nat} {d : TypeDesc} (hd : P.underlying kt = some d) {key : AV} {K : Value} (hK : VR G w K key) (hk : KindD d key) (e : Bool) (n : Nat) : (Instr.checkKey e (n + 1) kt K).run P w = .ok () w := by
  unfold KindD at hk
  split at hk
  · subst hk
    cases hK
    simp [Instr.checkKey, run_under hd]
  · cases hK
    simp [Instr.checkKey, run_under hd]
  · exact hk.elim
theorem sameNow_sim {d : TypeDesc} {key j : AV} (hk : KindD d key) {K J : Value} (hK : VR G w K key) (hJ : VR G w J j) {b : Bool} (hc : keyCmp key j = some b) : Instr.sameNow d K J = some b ∧ (b = true → ∀ n, Instr.sameBits n J K = true) := by
  unfold keyCmp at hc
  split at hc
  · rename_i k p j q
    cases hb : ikBeq k j with
    | false => rw [hb] at hc; simp at hc
    | true =>
      rw [hb] at hc
      simp only [cond_true, Option.some.injEq] at hc
      have := ikBeq_eq.1 hb
      subst this
      cases hK; cases hJ
      unfold KindD at hk
      split at hk
      · rename_i j' k' n' e
        cases e
        subst hk
        refine ⟨by simp [Instr.sameNow, ← hc, intBeq_eq], fun hb2 n => ?_⟩
        rw [hb2, intBeq_eq] at hc
        have : p = q := by simpa using hc
        subst this
        cases n <;> simp [Instr.sameBits]
      · rename_i e; cases e
      · exact hk.elim
  · rename_i p q
    simp only [Option.some.injEq] at hc
    cases hK; cases hJ
    rename_i s1 s2
    unfold KindD at hk
    split at hk
    · rename_i e; cases e
    · have hbe : (s1 == s2) = b := by
        rw [← hc, natsBeq_eq, bytesOf_eq]
        by_cases h : s1 = s2
        · subst h; simp [bytes_beq]
        · have h0 : (s1 == s2) = false := by
            cases hb : (s1 == s2) with
            | false => rfl
            | true => exact absurd (by simpa [bytes_beq] using hb) h
          have : ¬ s1.toList = s2.toList := by
            rw [ByteArray.toList_eq, ByteArray.toList_eq]
            intro e
            apply h
            cases s1; cases s2
            simp at e
            simp [e]
          rw [h0, beq_eq_false_iff_ne.2 this]
      refine ⟨by simp only [Instr.sameNow, hbe], fun hb2 n => ?_⟩
      rw [hb2] at hbe
      have : s1 = s2 := by simpa [bytes_beq] using hbe
      subst this
      cases n <;> simp [Instr.sameBits, bytes_beq]
    · exact hk.elim
  · simp at hc

def EntR (G : Gh) (w : World) (ents : List MapEntry) (es : List (AV × AV)) : Prop := ents.length = es.length ∧ ∀ (i : Nat) e k x, ents[i]? = some e → es[i]? = some (k, x) → VR G w e.key k ∧ VR G w e.val x
theorem EntR.uncons {ents : List MapEntry} {k v : AV} {es : List (AV × AV)} (r : EntR G w ents ((k, v) :: es)) : ∃ e l, ents = e :: l ∧ VR G w e.key k ∧ VR G w e.val v ∧ EntR G w l es := by
  cases ents with
  | nil => have := r.1; simp at this
  | cons e l =>
    obtain ⟨h1, h2⟩ := r.2 0 e k v rfl rfl
    exact ⟨e, l, rfl, h1, h2, by have := r.1; simpa using this, fun i e' k' x' he hx => r.2 (i + 1) e' k' x' (by simpa using he) (by simpa using hx)⟩

theorem findNow_get {d : TypeDesc} {key : AV} (hk : KindD d key) {K : Value} (hK : VR G w K key) : ∀ {es : List (AV × AV)} {ents : List MapEntry} (i : Nat) {r : Option AV}, EntR G w ents es → mapGet key es = some r →
    (r = none ∧ Instr.findNow d K ents i = some none) ∨ (∃ j V v, r = some v ∧ Instr.findNow d K ents i = some (some (i + j, V)) ∧ VR G w V v)
  | [], ents, i, r, hE, hg => by
    simp only [mapGet, Option.some.injEq] at hg
    have : ents = [] := List.eq_nil_of_length_eq_zero hE.1
    subst this
    exact .inl ⟨hg.symm, rfl⟩
  | (j, v) :: es, ents, i, r, hE, hg => by
    obtain ⟨e, l, rfl, h1, h2, h3⟩ := hE.uncons
    simp only [mapGet] at hg
    cases hc : keyCmp key j with
    | none => rw [hc] at hg; simp at hg
    | some b =>
      rw [hc] at hg
      have hs := (sameNow_sim hk hK h1 hc).1
      simp only [Instr.findNow, hs]
      cases b with
      | true =>
        simp only [Option.some.injEq] at hg
        exact .inr ⟨0, e.val, v, hg.symm, rfl, h2⟩
      | false =>
        simp only at hg
        rcases findNow_get hk hK (i + 1) h3 hg with ⟨h4, h5⟩ | ⟨j', V, v', h4, h5, h6⟩
        · exact .inl ⟨h4, h5⟩
        · exact .inr ⟨j' + 1, V, v', h4, by rw [h5, show i + 1 + j' = i + (j' + 1) by omega], h6⟩

theorem findNow_put {d : TypeDesc} {key v : AV} (hk : KindD d key) {K V : Value} (hK : VR G w K key) (hV : VR G w V v) : ∀ {es : List (AV × AV)} {ents : List MapEntry} (i : Nat) {m : List (AV × AV)}, EntR G w ents es → mapPut key v es = some m →
    (Instr.findNow d K ents i = some none ∧ m = es ++ [(key, v)]) ∨
    (∃ j V' e, Instr.findNow d K ents i = some (some (i + j, V')) ∧ ents[j]? = some e ∧ (∀ n, Instr.sameBits n e.key K = true) ∧ j < es.length ∧ m = es.set j (key, v))
  | [], ents, i, m, hE, hg => by
    simp only [mapPut, Option.some.injEq] at hg
    have : ents = [] := List.eq_nil_of_length_eq_zero hE.1
    subst this
    exact .inl ⟨rfl, hg.symm⟩
  | (j, u) :: es, ents, i, m, hE, hg => by
    obtain ⟨e, l, rfl, h1, h2, h3⟩ := hE.uncons
    simp only [mapPut] at hg
    cases hc : keyCmp key j with
    | none => rw [hc] at hg; simp at hg
    | some b =>
      rw [hc] at hg
      obtain ⟨hs, hb⟩ := sameNow_sim hk hK h1 hc
      simp only [Instr.findNow, hs]
      cases b with
      | true =>
        simp only [Option.some.injEq] at hg
        exact .inr ⟨0, e.val, e, rfl, rfl, hb rfl, by simp, by simp [← hg]⟩
      | false =>
        simp only at hg
        cases hp : mapPut key v es with
        | none => rw [hp] at hg; simp at hg
        | some m' =>
          rw [hp] at hg
          simp only [Option.some.injEq] at hg
          rcases findNow_put hk hK hV (i + 1) h3 hp with ⟨h4, h5⟩ | ⟨j', V', e', h4, h5, h6, h7, h8⟩
          · exact .inl ⟨h4, by rw [← hg, h5]; rfl⟩
          · exact .inr ⟨j' + 1, V', e', by rw [h4, show i + 1 + j' = i + (j' + 1) by omega], by simpa using h5, h6, by simp only [List.length_cons]; omega, by rw [← hg, h8]; rfl⟩

theorem evMin_some {mx : Bool} {vs : Option (List AV)} {v : AV} (h : evMin mx vs = some v) : ∃ k x j y, vs = some [.int k x, .int j y] ∧ ikBeq k j = true ∧ v = .int k (bif (bif mx then ltI x y else ltI y x) then y else x) := by
  unfold evMin at h
  split at h
  · rename_i k x j y
    cases hk : ikBeq k j with
    | false => rw [hk] at h; simp at h
    | true =>
      rw [hk] at h
      simp only [cond_true, Option.some.injEq] at h
      exact ⟨k, x, j, y, rfl, hk, h.symm⟩
  · simp at h
theorem two_ints {tm : Tm} {ρ : Operand → Value} {args : Array Operand} {k j : IntKind} {x y : Int} (hvs : allVals tm args.toList = some [.int k x, .int j y]) (hk : ikBeq k j = true) (hv : ∀ y ∈ args.toList, ∀ u, val tm y = some u → VR G w (ρ y) u) :
    args.map ρ = #[.int k x, .int k y] ∧ j = k := by
  have hA := allVals_VRs (G := G) (w := w) (ρ := ρ) hvs hv
  obtain ⟨X, A', hA1, hX, hA2⟩ := hA.uncons
  obtain ⟨Y, A2, rfl, hY, hA3⟩ := hA2.uncons
  have hA4 : A2 = [] := List.eq_nil_of_length_eq_zero (by rw [hA3.1]; rfl)
  subst hA4
  have e : j = k := by cases k <;> cases j <;> first | rfl | (simp [ikBeq] at hk)
  subst e
  cases hX
  cases hY
  refine ⟨?_, rfl⟩
  apply Array.ext'
  simpa using hA1
theorem read_sim {ty : Nat → Option TyI} (hT : TyOk P ty) (I : Inv G w h) {o : Oper} {tm : Tm} {a : Act} (hv : ∀ x ∈ o.op.operands, ∀ u, val tm x = some u → VR G w (a.eval x) u)
    {v : AV} (he : evRead ty tm h o.op = some v) : ∃ V, (execOp a.eval o).run P w = .ok (.value V) w ∧ VR G w V v := by
  have lift : ∀ {V : Value} {s : Sem Value}, s.run P w = .ok V w → (do pure (Next.value (← s)) : Sem Next).run P w = .ok (.value V) w := by
    intro V s hs
    simp only [Sem.run_bind, hs, Result.andThen_ok, Sem.run_pure]
  unfold execOp
  cases ho : o.op <;> rw [ho] at hv he <;> simp only [evRead, reduceCtorEq] at he <;> simp only []
  case load t x =>
    split at he
    · rename_i i cs ht hx
      obtain ⟨inf, d, h1, h2, _, h3, _, _, h4⟩ := tyOf_some (hT _ _ ht)
      have hX := hv x (by simp [Op.operands]) _ hx
      generalize a.eval x = z at *
      cases hX
      rename_i b off f k1 k2
      obtain ⟨V, g1, g2⟩ := load_sim h1 h2 b off cs f (fun j hj => (k1 j hj).1) k2 (by rw [← h3, ← h4]; exact he)
      exact ⟨V, lift g1, g2⟩
    · rename_i i id off ht hx
      obtain ⟨inf, d, h1, h2, _, h3, _, _, h4⟩ := tyOf_some (hT _ _ ht)
      have hX := hv x (by simp [Op.operands]) _ hx
      generalize a.eval x = z at *
      cases hX
      rename_i b hr
      split at he
      · rename_i cs hcs
        obtain ⟨V, g1, g2⟩ := load_ptr I h1 h2 hr hcs (by rw [← h3, ← h4]; exact he)
        exact ⟨V, lift g1, g2⟩
      · simp at he
    · simp at he
  case lookup t m k ok =>
    split at he
    · rename_i kt et s1 b1 z1 a1 f1 ht
      split at he
      · rename_i ik k2 s2 b2 z a2 f2 key hkt het hkv
        obtain ⟨_, dm, _, um, kkm, _⟩ := tyOf_some (hT _ _ ht)
        have := kind_map kkm
        subst this
        obtain ⟨_, dk, _, uk, kkk, _⟩ := tyOf_some (hT _ _ hkt)
        cases hko : keyOk ik.kind key with
        | false => rw [hko] at he; simp at he
        | true =>
          rw [hko] at he
          simp only [cond_true] at he
          have hKD : KindD dk key := keyOk_spec (P := P) (by rw [← kkk]; exact hko)
          have hK := hv k (by simp [Op.operands]) _ hkv
          obtain ⟨inf, Z, hz1, hz2, hz3⟩ := zero_VR (G := G) (w := w) hT het rfl
          have hz4 := run_zero (P := P) (w := w) hz1 hz2
          have fin : ∀ {V : Value} {x : AV} {b : Bool}, VR G w V x → VR G w (if ok then .tuple #[V, .bool b] else V) (bif ok then .tup [x, .bool b] else x) := by
            intro V x b hV
            cases ok with
            | false => exact hV
            | true =>
              refine .tup #[V, .bool b] [x, .bool b] rfl fun i u y hu hy => ?_
              match i with
              | 0 => simp at hu hy; subst hu; subst hy; exact hV
              | 1 => simp at hu hy; subst hu; subst hy; exact .bool b
              | i + 2 => simp at hu
          split at he
          · rename_i hm
            simp only [Option.some.injEq] at he
            subst he
            have hM := hv m (by simp [Op.operands]) _ hm
            generalize a.eval m = zm at *
            cases hM
            refine ⟨_, lift ?_, fin hz3⟩
            unfold Instr.lookup
            simp only [Sem.run_bind, run_under um, Result.andThen_ok, Sem.run_pure, run_checkKey uk hK hKD, Instr.findKey, run_under uk, List.toList_toArray, Instr.findNow, hz4]
          · rename_i id hm
            have hM := hv m (by simp [Op.operands]) _ hm
            generalize a.eval m = zm at *
            cases hM
            rename_i b hr
            split at he
            · rename_i es hes
              obtain ⟨ents, clk, hb, hl, hR⟩ := I.mapAt hr hes
              have hE : EntR G w ents.toList es := ⟨by simpa using hl, fun i e k x h1 h2 => hR i e k x (by simpa using h1) h2⟩
              have hget : (getObj b).run P w = .ok (.map ents clk) w := by simp [getObj, Sem.run, hb]
              cases hg : mapGet key es with
              | none => rw [hg] at he; simp at he
              | some r =>
                rw [hg] at he
                rcases findNow_get hKD hK 0 hE hg with ⟨rfl, h5⟩ | ⟨j', V, v', rfl, h5, h6⟩
                · simp only [Option.some.injEq] at he
                  subst he
                  refine ⟨_, lift ?_, fin hz3⟩
                  unfold Instr.lookup
                  simp only [Sem.run_bind, run_under um, Result.andThen_ok, Sem.run_pure, hget, run_checkKey uk hK hKD, Instr.findKey, run_under uk, h5, hz4]
                · simp only [Option.some.injEq] at he
                  subst he
                  refine ⟨_, lift ?_, fin h6⟩
                  unfold Instr.lookup
                  simp only [Sem.run_bind, run_under um, Result.andThen_ok, Sem.run_pure, hget, run_checkKey uk hK hKD, Instr.findKey, run_under uk, h5]
            · simp at he
          · simp at he
      · simp at he
    · simp at he
  case call c =>
    obtain ⟨cal, args, ats⟩ := c
    simp only at he
    split at he
    · split at he
      · rename_i t x hat hvs
        have hA := allVals_VRs (G := G) (w := w) (ρ := a.eval) hvs fun y hy u hu => hv y (by simp [Op.operands, Call.operands] at hy ⊢; exact hy) u hu
        obtain ⟨X, A', hA1, hX, hA2⟩ := hA.uncons
        have hA3 : A' = [] := List.eq_nil_of_length_eq_zero (by rw [hA2.1]; rfl)
        subst hA3
        have hargs : args.map a.eval = #[X] := by
          apply Array.ext'
          simpa using hA1
        have hats : ats = #[t] := by apply Array.ext'; simpa using hat
        subst hats
        cases hty : ty t with
        | none => rw [hty] at he; simp at he
        | some i =>
          rw [hty] at he
          simp only at he
          obtain ⟨_, d1, _, u1, kk1, _⟩ := tyOf_some (hT _ _ hty)
          have run : ∀ {V : Value}, (Builtin.len_ #[t] o.type #[X]).run P w = .ok V w → (do let d ← resolve a.eval { callee := .builtin .len, args := args, argTypes := #[t] } o.type; invoke d.target d.args : Sem Next).run P w = .ok (.value V) w := by
            intro V hV
            simp only [resolve, Sem.run_bind, Sem.run_pure, Result.andThen_ok, invoke, builtin, hargs, hV]
          split at he
          · rename_i s hk
            rw [hk] at kk1
            have := kind_str kk1
            subst this
            simp only [Option.some.injEq] at he
            subst he
            cases hX
            rename_i s'
            refine ⟨.int .i64 s'.size, run ?_, by rw [bytesOf_length]; exact .int _ _⟩
            simp [Builtin.len_, run_under u1, goInt]
          · rename_i e o' els hk
            rw [hk] at kk1
            have := kind_slice kk1
            subst this
            simp only [Option.some.injEq] at he
            subst he
            refine ⟨.int .i64 els.length, run ?_, .int _ _⟩
            cases hX with
            | sl0 => simp [Builtin.len_, run_under u1, goInt]
            | sl b off len cap s _ _ f hl hcap hs h1 h2 ho2 => simp [Builtin.len_, run_under u1, goInt, hl]
          · rename_i k2 e2 hk
            rw [hk] at kk1
            have := kind_map kk1
            subst this
            simp only [Option.some.injEq] at he
            subst he
            cases hX
            exact ⟨.int .i64 0, run (by simp [Builtin.len_, run_under u1, goInt]), .int _ _⟩
          · rename_i k2 e2 r hk
            rw [hk] at kk1
            have := kind_map kk1
            subst this
            split at he
            · rename_i es hes
              simp only [Option.some.injEq] at he
              subst he
              cases hX
              rename_i b hr
              obtain ⟨ents, clk, hb, hl, hR⟩ := I.mapAt hr hes
              have hget : (getObj b).run P w = .ok (.map ents clk) w := by simp [getObj, Sem.run, hb]
              refine ⟨.int .i64 es.length, run ?_, .int _ _⟩
              simp [Builtin.len_, run_under u1, goInt, hget, hl]
            · simp at he
          · simp at he
      · simp at he
    · obtain ⟨k, x, j, y, hvs, hk, rfl⟩ := evMin_some he
      obtain ⟨hargs, rfl⟩ := two_ints (ρ := a.eval) (G := G) (w := w) hvs hk fun y hy u hu => hv y (by simp [Op.operands, Call.operands] at hy ⊢; exact hy) u hu
      refine ⟨_, ?_, .int _ _⟩
      have hV : (Builtin.min_ ats o.type #[.int j x, .int j y]).run P w = .ok (.int j (bif (bif false then ltI x y else ltI y x) then y else x)) w := by
        simp only [Builtin.min_, Builtin.min2, List.foldlM_cons, List.foldlM_nil, Sem.run_bind, Sem.run_pure, Result.andThen_ok, cond_false, ltI_eq]
        by_cases hlt : y < x <;> simp [hlt]
      simp only [resolve, Sem.run_bind, Sem.run_pure, Result.andThen_ok, invoke, builtin, hargs, hV]
    · obtain ⟨k, x, j, y, hvs, hk, rfl⟩ := evMin_some he
      obtain ⟨hargs, rfl⟩ := two_ints (ρ := a.eval) (G := G) (w := w) hvs hk fun y hy u hu => hv y (by simp [Op.operands, Call.operands] at hy ⊢; exact hy) u hu
      refine ⟨_, ?_, .int _ _⟩
      have hV : (Builtin.max_ ats o.type #[.int j x, .int j y]).run P w = .ok (.int j (bif (bif true then ltI x y else ltI y x) then y else x)) w := by
        simp only [Builtin.max_, Builtin.max2, List.foldlM_cons, List.foldlM_nil, Sem.run_bind, Sem.run_pure, Result.andThen_ok, cond_true, ltI_eq]
        by_cases hlt : x < y <;> simp [hlt]
      simp only [resolve, Sem.run_bind, Sem.run_pure, Result.andThen_ok, invoke, builtin, hargs, hV]
    · simp at he
end

end Go.Ev
