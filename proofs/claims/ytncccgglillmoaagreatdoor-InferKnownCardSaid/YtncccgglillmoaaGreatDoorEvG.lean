/- Statements and calls of the abstract machine are the model's; regions that draw their order are EvH's. -/
import Derived.Test.YtncccgglillmoaaGreatDoorEvD
set_option autoImplicit false
set_option linter.unusedSectionVars false
set_option linter.unusedVariables false
set_option linter.unusedSimpArgs false
namespace Go.Ev
variable [Inhabited KA0] [MT]

def Post (G : Gh) (w : World) (h : H) (v : AV) (h' : H) : Ending → World → Prop :=
  fun e w' => ∃ G' V, e = .returned V ∧ VR G' w' V v ∧ Inv G' w' h' ∧ Ext G w h G' w' h'
/-- What a call comes to is what the machine says. -/
def CallOk (P : Program) (call : CallF) : Prop :=
  ∀ f args h v h', call f args h = some (v, h') →
    (∃ fn, P.funcs[f]? = some fn ∧ (fn.name == "runtime.NumGoroutine") = false ∧ fn.body.isNone = false) ∧
    ∀ G w (A : Array Value), Inv G w h → VRs G w A.toList args → Calls P f A w (Post G w h v h')

structure TmR (G : Gh) (w : World) (n : Nat) (tm : Tm) (a : Act) : Prop where
  size : a.tmps.size = n
  val : ∀ t v, tm.get t = some v → VR G w (a.tmps.getD t undef) v

/-- What an operation does is what the machine says. -/
def ActOk (P : Program) (ty : Nat → Option TyI) (call : CallF) : Prop :=
  ∀ G w h tm (a : Act) (o : Oper) v h', Inv G w h → (∀ x ∈ o.op.operands, ∀ u, val tm x = some u → VR G w (a.eval x) u) → evAct call ty tm h o.op = some (v, h') →
    ∀ (K : Act → World → Prop) (Q : Exit → Act → World → Prop), (∀ G' w' V, Inv G' w' h' → Ext G w h G' w' h' → VR G' w' V v → K (a.put o.dst V) w') → o.wp P a w K Q

section
variable {P : Program} {G : Gh} {w : World} {h : H} {n : Nat} {tm : Tm} {a : Act}

theorem val_VR (hv : ∀ t v, tm.get t = some v → VR G w (a.tmps.getD t undef) v) {x : Operand} {u : AV} (hx : val tm x = some u) : VR G w (a.eval x) u := by
  cases x with
  | tmp t => exact hv t u hx
  | const v => exact ofVal_VR G w hx
  | func f =>
    simp only [val, Option.some.injEq] at hx
    subst hx
    exact .fn f #[] #[] [] [] rfl rfl (fun i v x hv => by simp at hv) (fun i v x hv => by simp at hv)
  | global g => simp [val] at hx

theorem TmR.mono {G' : Gh} {w' : World} {h' : H} (E : Ext G w h G' w' h') (T : TmR G w n tm a) : TmR G' w' n tm a := ⟨T.size, fun t v ht => (T.val t v ht).mono E⟩

theorem size_put (a : Act) (d : Option Tmp) (V : Value) : (a.put d V).tmps.size = a.tmps.size := by cases d <;> simp [Act.put]
theorem TmR.put (T : TmR G w n tm a) {dst : Option Nat} {V : Value} {v : AV} (hv : VR G w V v) {tm' : Tm} (hp : putTm n dst v tm = some tm') : TmR G w n tm' (a.put dst V) := by
  refine ⟨by rw [size_put]; exact T.size, fun t u ht => ?_⟩
  cases dst with
  | none => simp only [putTm, Option.some.injEq] at hp; subst hp; exact T.val t u ht
  | some d =>
    simp only [putTm] at hp
    cases hd : Nat.blt d n with
    | false => rw [hd] at hp; simp at hp
    | true =>
      rw [hd] at hp
      simp only [cond_true, Option.some.injEq] at hp
      subst hp
      have hdn : d < a.tmps.size := by rw [T.size]; exact blt_nat.1 hd
      by_cases e : t = d
      · subst e
        rw [Go.Ev.T.get_set] at ht
        simp only [Option.some.injEq] at ht
        subst ht
        simpa [Act.put, hdn] using hv
      · rw [Go.Ev.T.get_set_ne _ _ e] at ht
        have := T.val t u ht
        simp only [Act.put]
        have e2 : (a.tmps.setIfInBounds d V).getD t undef = a.tmps.getD t undef := by
          simp [Array.getD_eq_getD_getElem?, Array.getElem?_setIfInBounds_ne (fun h => e h.symm)]
        rw [e2]
        exact this

theorem undef_VR (G : Gh) (w : World) : VR G w undef (.tup []) := .tup #[] [] rfl (fun i v x hv => by simp at hv)

theorem wanted_eq {ops : Array Oper} {o : Oper} (hg : ∀ j want, o.guard = some (j, want) → ∀ d, (ops[j]?).bind (·.dst) = some d → ∀ u, tm.get d = some u → VR G w (a.tmps.getD d undef) u)
    {b : Bool} (hw : wantedA ops tm o = some b) : Region.wanted o (yielded ops a.tmps) = b := by
  unfold wantedA at hw
  unfold Region.wanted yielded
  cases hq : o.guard with
  | none => rw [hq] at hw; simpa using hw
  | some p =>
    obtain ⟨j, want⟩ := p
    rw [hq] at hw
    simp only at hw ⊢
    cases hd : (ops[j]?).bind (·.dst) with
    | none =>
      rw [hd] at hw
      simp only [Option.some.injEq] at hw
      subst hw
      simp
    | some d =>
      rw [hd] at hw
      simp only at hw
      split at hw
      · rename_i c hc
        have := hg j want hq d hd _ hc
        simp only [Option.some.injEq] at hw
        have e : a.tmps[d]? = some (.bool c) := by
          generalize hx : a.tmps.getD d undef = x at this
          cases this
          rw [Array.getD_eq_getD_getElem?] at hx
          cases hy : a.tmps[d]? with
          | none => rw [hy] at hx; simp [undef] at hx
          | some y => rw [hy] at hx; simp at hx; rw [hx]
        simp [e, ← hw]
      · rename_i l hc
        have := hg j want hq d hd _ hc
        simp only [Option.some.injEq] at hw
        subst hw
        simp only [Option.bind_some]
        split
        · rename_i b' he
          rw [Array.getD_eq_getD_getElem?, he] at this
          simp only [Option.getD_some] at this
          cases this
        · simp
      · simp at hw

theorem one_sim {ty : Nat → Option TyI} {call : CallF} (hA : ActOk P ty call) {ops : Array Oper} {i : Nat} {o : Oper} (hi : ops[i]? = some o) (I : Inv G w h) (T : TmR G w n tm a)
    {tm' : Tm} {h' : H} (he : evOne call ty n ops o tm h = some (tm', h')) (Q : Exit → Act → World → Prop) (K : Act → World → Prop)
    (hK : ∀ G' w' a', Inv G' w' h' → Ext G w h G' w' h' → TmR G' w' n tm' a' → a'.defers = a.defers → K a' w') : wpOp P ops Q i K a w := by
  unfold evOne at he
  unfold wpOp
  rw [hi]
  simp only
  cases hw : wantedA ops tm o with
  | none => rw [hw] at he; simp at he
  | some b =>
    rw [hw] at he
    have hwt := wanted_eq (a := a) (fun j want _ d _ u hu => T.val d u hu) hw
    rw [hwt]
    cases b with
    | false =>
      simp only at he
      cases hp : putTm n o.dst (.tup []) tm with
      | none => rw [hp] at he; simp at he
      | some t1 =>
        rw [hp] at he
        simp only [Option.some.injEq, Prod.mk.injEq] at he
        obtain ⟨rfl, rfl⟩ := he
        simp only [Bool.false_eq_true, if_false]
        exact hK G w _ I (Ext.refl G w h) (T.put (undef_VR G w) hp) (by cases o.dst <;> rfl)
    | true =>
      simp only at he
      cases hv : evAct call ty tm h o.op with
      | none => rw [hv] at he; simp at he
      | some p =>
        obtain ⟨v, h1⟩ := p
        rw [hv] at he
        simp only at he
        cases hp : putTm n o.dst v tm with
        | none => rw [hp] at he; simp at he
        | some t1 =>
          rw [hp] at he
          simp only [Option.some.injEq, Prod.mk.injEq] at he
          obtain ⟨rfl, rfl⟩ := he
          simp only [if_true]
          refine .inl (hA G w h tm a o v h1 I (fun x _ u hu => val_VR T.val hu) hv K Q fun G' w' V I' E hV => ?_)
          exact hK G' w' _ I' E ((T.mono E).put hV hp) (by cases o.dst <;> rfl)

theorem seq_sim {ty : Nat → Option TyI} {call : CallF} (hA : ActOk P ty call) {ops : Array Oper} : ∀ (l : List Oper) (k : Nat), (∀ j, l[j]? = ops[k + j]?) → ∀ {G : Gh} {w : World} {h : H} {tm : Tm} {a : Act}, Inv G w h → TmR G w n tm a →
    ∀ {tm' : Tm} {h' : H}, evSeq call ty n ops l tm h = some (tm', h') → ∀ (Q : Exit → Act → World → Prop),
    (∀ G' w' a', Inv G' w' h' → Ext G w h G' w' h' → TmR G' w' n tm' a' → a'.defers = a.defers → Q .normal a' w') → wpOps P ops Q (List.range' k l.length) a w := by
  intro l
  induction l with
  | nil =>
    intro k _ G w h tm a I T tm' h' he Q hQ
    simp only [evSeq, Option.some.injEq, Prod.mk.injEq] at he
    obtain ⟨rfl, rfl⟩ := he
    exact hQ G w a I (Ext.refl G w h) T rfl
  | cons o l ih =>
    intro k hl G w h tm a I T tm' h' he Q hQ
    simp only [evSeq] at he
    cases h1 : evOne call ty n ops o tm h with
    | none => rw [h1] at he; simp at he
    | some p =>
      obtain ⟨t1, g1⟩ := p
      rw [h1] at he
      simp only at he
      rw [List.length_cons, List.range'_succ, wpOps_cons]
      refine one_sim hA (by have := hl 0; simpa using this.symm) I T h1 Q _ fun G' w' a' I' E T' hd => ?_
      refine ih (k + 1) (fun j => by have := hl (j + 1); simp only [List.getElem?_cons_succ] at this; rw [this]; congr 1; omega) I' T' he Q fun G2 w2 a2 I2 E2 T2 hd2 => ?_
      exact hQ G2 w2 a2 I2 (E.trans E2) T2 (hd2.trans hd)
end

end Go.Ev
