/- Statements and calls of the abstract machine are the model's: the whole. -/
import Derived.Test.YtncccgglillmoaaGreatDoorEvR
import Derived.Test.YtncccgglillmoaaGreatDoorEvAlt
set_option autoImplicit false
set_option linter.unusedSectionVars false
set_option linter.unusedVariables false
set_option linter.unusedSimpArgs false
namespace Go.Ev
variable [Inhabited KA0] [MT]

/-- The look at a function's plans. -/
def codeOk (plan : Nat → Option (List PE)) (alt : Nat → Option Alt) : Code → Bool
  | .region id ops true => match plan id with
    | none => match alt id with
      | none => true
      | some al => altOk ops al
    | some pl => planOk ops pl
  | .seq a b => codeOk plan alt a && codeOk plan alt b
  | .cond _ a b => codeOk plan alt a && codeOk plan alt b
  | .block _ b => codeOk plan alt b
  | .loop b => codeOk plan alt b
  | _ => true

structure EnvOk (P : Program) (E : Env) : Prop where
  mixed : P.follows .mixedOrders = true
  ty : TyOk P E.ty
  fns : ∀ f fn, E.fns f = some fn → P.funcs[f]? = some fn ∧ (fn.name == "runtime.NumGoroutine") = false
  plans : ∀ f fn c, E.fns f = some fn → fn.body = some c → codeOk (E.plan f) (E.alt f) c = true
  prims : ∀ f p, E.prim f = some p → (∃ fn, P.funcs[f]? = some fn ∧ (fn.name == "runtime.NumGoroutine") = false ∧ fn.body.isNone = false) ∧
    ∀ args h v h', p args h = some (v, h') → ∀ G w (A : Array Value), Inv G w h → VRs G w A.toList args → Calls P f A w (Post G w h v h')

def exOf : Ex → Exit
  | .normal => .normal
  | .exit id => .exit id
  | .ret => .ret

section
variable {P : Program} {E : Env}

theorem exOf_then {next : Act → World → Prop} {Q : Exit → Act → World → Prop} {ex : Ex} (h : ex ≠ .normal) (a : Act) (w : World) : Exit.then next Q (exOf ex) a w = Q (exOf ex) a w := by
  cases ex <;> first | rfl | exact absurd rfl h

theorem code_sim (hE : EnvOk P E) {call : CallF} (hC : CallOk P call) (f n : Nat) : ∀ (k : Nat) (c : Code) {G : Gh} {w : World} {h : H} {tm : Tm} {a : Act} {ex : Ex} {tm' : Tm} {h' : H}, codeOk (E.plan f) (E.alt f) c = true → Inv G w h → TmR G w n tm a →
    evCode call E f n k c tm h = some (ex, tm', h') → ∀ (Q : Exit → Act → World → Prop), (∀ G' w' a', Inv G' w' h' → Ext G w h G' w' h' → TmR G' w' n tm' a' → a'.defers = a.defers → Q (exOf ex) a' w') →
    c.wp P Q a w ∧ ∀ b, c = .loop b → Code.rounds P b Q k a w := by
  have hA := act_sim hE.ty hC
  intro k
  induction k with
  | zero => intro c G w h tm a ex tm' h' _ _ _ he; simp [evCode] at he
  | succ k ih =>
    intro c G w h tm a ex tm' h' hco I T he Q hQ
    cases c <;> simp only [evCode, reduceCtorEq] at he
    case skip =>
      simp only [Option.some.injEq, Prod.mk.injEq] at he
      obtain ⟨rfl, rfl, rfl⟩ := he
      exact ⟨wp_skip (hQ G w a I (Ext.refl G w h) T rfl), fun b e => by cases e⟩
    case label l =>
      simp only [Option.some.injEq, Prod.mk.injEq] at he
      obtain ⟨rfl, rfl, rfl⟩ := he
      exact ⟨wp_label (hQ G w a I (Ext.refl G w h) T rfl), fun b e => by cases e⟩
    case exit id =>
      simp only [Option.some.injEq, Prod.mk.injEq] at he
      obtain ⟨rfl, rfl, rfl⟩ := he
      exact ⟨wp_exit (hQ G w a I (Ext.refl G w h) T rfl), fun b e => by cases e⟩
    case ret =>
      simp only [Option.some.injEq, Prod.mk.injEq] at he
      obtain ⟨rfl, rfl, rfl⟩ := he
      exact ⟨wp_ret (hQ G w a I (Ext.refl G w h) T rfl), fun b e => by cases e⟩
    case region id ops dr =>
      refine ⟨?_, fun b e => by cases e⟩
      cases dr with
      | false =>
        simp only at he
        cases hs : evSeq call E.ty n ops ops.toList tm h with
        | none => rw [hs] at he; simp at he
        | some p =>
          obtain ⟨t1, h1⟩ := p
          rw [hs] at he
          simp only [Option.some.injEq, Prod.mk.injEq] at he
          obtain ⟨rfl, rfl, rfl⟩ := he
          refine wp_region ?_
          have := seq_sim hA ops.toList 0 (fun j => by simp) I T hs Q hQ
          rw [List.range_eq_range']
          simpa using this
      | true =>
        simp only at he
        cases hp : E.plan f id with
        | none =>
          rw [hp] at he
          simp only at he
          cases hal : E.alt f id with
          | none => rw [hal] at he; simp at he
          | some al =>
            rw [hal] at he
            simp only at he
            cases hs : evAlt call E.ty n ops al tm h with
            | none => rw [hs] at he; simp at he
            | some p =>
              obtain ⟨t1, h1⟩ := p
              rw [hs] at he
              simp only [Option.some.injEq, Prod.mk.injEq] at he
              obtain ⟨rfl, rfl, rfl⟩ := he
              simp only [codeOk, hp, hal] at hco
              exact alt_sim hA (new_sim hE.ty) hE.mixed hco I T hs id Q hQ
        | some pl =>
          rw [hp] at he
          simp only at he
          cases hs : evPlan call E.ty n ops pl tm h with
          | none => rw [hs] at he; simp at he
          | some p =>
            obtain ⟨t1, h1⟩ := p
            rw [hs] at he
            simp only [Option.some.injEq, Prod.mk.injEq] at he
            obtain ⟨rfl, rfl, rfl⟩ := he
            simp only [codeOk, hp] at hco
            exact draw_sim hA (new_sim hE.ty) hE.mixed hco I T hs id Q hQ
    case seq x y =>
      refine ⟨?_, fun b e => by cases e⟩
      simp only [codeOk, Bool.and_eq_true] at hco
      cases hx : evCode call E f n k x tm h with
      | none => rw [hx] at he; simp at he
      | some p =>
        obtain ⟨ex1, t1, h1⟩ := p
        rw [hx] at he
        refine wp_seq (ih x hco.1 I T hx _ fun G1 w1 a1 I1 E1 T1 hd1 => ?_).1
        cases ex1 with
        | normal =>
          simp only at he
          show y.wp P Q a1 w1
          exact (ih y hco.2 I1 T1 he Q fun G2 w2 a2 I2 E2 T2 hd2 => hQ G2 w2 a2 I2 (E1.trans E2) T2 (hd2.trans hd1)).1
        | exit j =>
          simp only [Option.some.injEq, Prod.mk.injEq] at he
          obtain ⟨rfl, rfl, rfl⟩ := he
          exact hQ G1 w1 a1 I1 E1 T1 hd1
        | ret =>
          simp only [Option.some.injEq, Prod.mk.injEq] at he
          obtain ⟨rfl, rfl, rfl⟩ := he
          exact hQ G1 w1 a1 I1 E1 T1 hd1
    case cond c x y =>
      refine ⟨?_, fun b e => by cases e⟩
      simp only [codeOk, Bool.and_eq_true] at hco
      cases hc : val tm c with
      | none => rw [hc] at he; simp at he
      | some v =>
        rw [hc] at he
        have hv := val_VR T.val hc
        cases v <;> simp only [reduceCtorEq] at he
        rename_i t
        have hcv : a.eval c = .bool t := by
          generalize a.eval c = z at hv
          cases hv
          rfl
        refine wp_cond hcv ?_
        cases t with
        | true => exact (ih x hco.1 I T he Q hQ).1
        | false => exact (ih y hco.2 I T he Q hQ).1
    case block id b =>
      refine ⟨?_, fun b e => by cases e⟩
      simp only [codeOk] at hco
      cases hb : evCode call E f n k b tm h with
      | none => rw [hb] at he; simp at he
      | some p =>
        obtain ⟨ex1, t1, h1⟩ := p
        rw [hb] at he
        refine wp_block (ih b hco I T hb _ fun G1 w1 a1 I1 E1 T1 hd1 => ?_).1
        cases ex1 with
        | normal =>
          simp only [Option.some.injEq, Prod.mk.injEq] at he
          obtain ⟨rfl, rfl, rfl⟩ := he
          exact hQ G1 w1 a1 I1 E1 T1 hd1
        | exit j =>
          simp only [Option.some.injEq, Prod.mk.injEq] at he
          obtain ⟨rfl, rfl, rfl⟩ := he
          have := hQ G1 w1 a1 I1 E1 T1 hd1
          simp only [exOf, Exit.inBlock]
          by_cases e : j = id
          · rw [if_pos e]
            rw [beq_nat.2 e] at this
            exact this
          · rw [if_neg e]
            rw [beq_no e] at this
            exact this
        | ret =>
          simp only [Option.some.injEq, Prod.mk.injEq] at he
          obtain ⟨rfl, rfl, rfl⟩ := he
          exact hQ G1 w1 a1 I1 E1 T1 hd1
    case loop b =>
      simp only [codeOk] at hco
      have hr : Code.rounds P b Q (k + 1) a w := by
        rw [rounds_succ]
        cases hb : evCode call E f n k b tm h with
        | none => rw [hb] at he; simp at he
        | some p =>
          obtain ⟨ex1, t1, h1⟩ := p
          rw [hb] at he
          refine (ih b hco I T hb _ fun G1 w1 a1 I1 E1 T1 hd1 => ?_).1
          cases ex1 with
          | normal =>
            simp only at he
            show Code.rounds P b Q k a1 w1
            exact (ih (.loop b) (by simpa [codeOk] using hco) I1 T1 he Q fun G2 w2 a2 I2 E2 T2 hd2 => hQ G2 w2 a2 I2 (E1.trans E2) T2 (hd2.trans hd1)).2 b rfl
          | exit j =>
            simp only [Option.some.injEq, Prod.mk.injEq] at he
            obtain ⟨rfl, rfl, rfl⟩ := he
            exact hQ G1 w1 a1 I1 E1 T1 hd1
          | ret =>
            simp only [Option.some.injEq, Prod.mk.injEq] at he
            obtain ⟨rfl, rfl, rfl⟩ := he
            exact hQ G1 w1 a1 I1 E1 T1 hd1
      exact ⟨wp_loop_rounds (k + 1) hr, fun b' e => by simp only [Code.loop.injEq] at e; subst e; exact hr⟩

theorem setArgs_get : ∀ (args : List AV) (i : Nat) (tm : Tm) (t : Nat), (setArgs i args tm).get t = if i ≤ t ∧ t < i + args.length then args[t - i]? else tm.get t
  | [], i, tm, t => by simp [setArgs]; intro h1 h2; omega
  | v :: l, i, tm, t => by
    rw [setArgs, setArgs_get l (i + 1) (tm.set i v) t]
    by_cases h1 : t = i
    · subst h1
      rw [if_neg (by omega), if_pos (by simp), Go.Ev.T.get_set]
      simp
    · rw [Go.Ev.T.get_set_ne _ _ h1]
      by_cases h2 : i + 1 ≤ t ∧ t < i + 1 + l.length
      · rw [if_pos h2, if_pos (by simp; omega), show t - i = (t - (i + 1)) + 1 by omega]
        simp
      · rw [if_neg h2, if_neg (by simp; omega)]

def resOne (tmps : Array Value) : ResultVar → Sem Value
  | .tmp t => pure (tmps.getD t undef)
  | .cell a t => do loadVar t (← asAddr (tmps.getD a undef))
theorem results_eq (fn : Func) (tmps : Array Value) : results fn tmps = (do
    let vs ← fn.results.mapM (resOne tmps)
    pure (if h : vs.size = 1 then vs[0] else .tuple vs)) := by
  unfold results
  congr 1

theorem res_sim {ty : Nat → Option TyI} (hT : TyOk P ty) {G : Gh} {w : World} {h : H} {n : Nat} {tm : Tm} {a : Act} (I : Inv G w h) (T : TmR G w n tm a) {l : List ResultVar} {vs : List AV} (he : evRes ty tm h l = some vs) :
    ∃ Vs : List Value, (l.mapM (resOne a.tmps)).run P w = .ok Vs w ∧ VRs G w Vs vs := by
  induction l generalizing vs with
  | nil => simp [evRes] at he; subst he; exact ⟨[], rfl, VRs.nil G w⟩
  | cons r l ih =>
    cases r with
    | tmp t =>
      simp only [evRes] at he
      split at he
      · rename_i v m hv hm
        simp only [Option.some.injEq] at he
        subst he
        obtain ⟨Vs, h1, h2⟩ := ih hm
        refine ⟨a.tmps.getD t undef :: Vs, ?_, .cons (T.val t v hv) h2⟩
        simp only [List.mapM_cons, resOne, Sem.run_bind, Sem.run_pure, Result.andThen_ok, h1]
      · simp at he
    | cell x t =>
      simp only [evRes] at he
      split at he
      · rename_i v h0 m hv hm
        simp only [Option.some.injEq] at he
        subst he
        obtain ⟨Vs, h1, h2⟩ := ih hm
        have hR : evRead ty tm h (.load t (.tmp x)) = some v := by
          unfold evOp at hv
          simp only [opKind] at hv
          cases hr : evRead ty tm h (.load t (.tmp x)) with
          | none => rw [hr] at hv; simp at hv
          | some v' =>
            rw [hr] at hv
            simp only [Option.some.injEq, Prod.mk.injEq] at hv
            rw [hv.1]
        obtain ⟨b, off, V, e1, e2, e3⟩ : ∃ b off V, a.tmps.getD x undef = .pointer (some ⟨b, off, none⟩) ∧ (Instr.loadAt t (.pointer (some ⟨b, off, none⟩))).run P w = .ok V w ∧ VR G w V v := by
          simp only [evRead, val] at hR
          split at hR
          · rename_i i cs hti hx
            obtain ⟨inf, d, g1, g2, _, g3, _, _, g4⟩ := tyOf_some (hT _ _ hti)
            have hU := T.val x _ hx
            generalize a.tmps.getD x undef = z at hU
            cases hU
            rename_i b off f k1 k2
            obtain ⟨V, j1, j2⟩ := load_sim g1 g2 b off cs f (fun j hj => (k1 j hj).1) k2 (by rw [← g3, ← g4]; exact hR)
            exact ⟨b, off, V, rfl, j1, j2⟩
          · rename_i i id off hti hx
            obtain ⟨inf, d, g1, g2, _, g3, _, _, g4⟩ := tyOf_some (hT _ _ hti)
            have hU := T.val x _ hx
            generalize a.tmps.getD x undef = z at hU
            cases hU
            rename_i b hr
            split at hR
            · rename_i cs hcs
              obtain ⟨V, k1, k2⟩ := load_ptr I g1 g2 hr hcs (by rw [← g3, ← g4]; exact hR)
              exact ⟨b, off, V, rfl, k1, k2⟩
            · simp at hR
          · rename_i i id len off hti hx
            obtain ⟨inf, d, g1, g2, _, g3, _, _, g4⟩ := tyOf_some (hT _ _ hti)
            have hU := T.val x _ hx
            generalize a.tmps.getD x undef = z at hU
            cases hU
            rename_i b hr
            split at hR
            · rename_i nn e s cs hcs
              cases hc : Nat.beq nn len with
              | false => rw [hc] at hR; simp at hR
              | true =>
                rw [hc] at hR
                simp only [cond_true] at hR
                have := beq_nat.1 hc
                subst this
                obtain ⟨V, k1, k2⟩ := load_row I g1 g2 hr hcs (by rw [← g3, ← g4]; exact hR)
                exact ⟨b, off, V, rfl, k1, k2⟩
            · simp at hR
          · simp at hR
        refine ⟨V :: Vs, ?_, .cons e3 h2⟩
        have e2' : (loadVar t ⟨b, off, none⟩).run P w = .ok V w := by simpa [Instr.loadAt, Instr.sureAddr] using e2
        have e4 : (resOne a.tmps (.cell x t)).run P w = .ok V w := by simp only [resOne, e1, asAddr, Sem.run_bind, Sem.run_pure, Result.andThen_ok, e2']
        simp only [List.mapM_cons, Sem.run_bind, Sem.run_pure, Result.andThen_ok, h1, e4]
      · simp at he

/-- What a function answers, out of its code's end. -/
def endL (ty : Nat → Option TyI) (rs : List ResultVar) : Option (Ex × Tm × H) → Option (AV × H)
  | some (.normal, tm, h) => match evRes ty tm h rs with
    | some l => some (resOf l, h)
    | none => none
  | some (.ret, tm, h) => match evRes ty tm h rs with
    | some l => some (resOf l, h)
    | none => none
  | _ => none
theorem body_sim (hE : EnvOk P E) {call : CallF} (hC : CallOk P call) {f k : Nat} {fn : Func} {c : Code} {args : List AV} {h h' : H} {v : AV} (hf : E.fns f = some fn) (hb : fn.body = some c) (hn : Nat.ble args.length fn.ntmps = true)
    (he : endL E.ty fn.results.toList (evCode call E f fn.ntmps k c (setArgs 0 args .e) h) = some (v, h')) :
    (∃ fn, P.funcs[f]? = some fn ∧ (fn.name == "runtime.NumGoroutine") = false ∧ fn.body.isNone = false) ∧
    ∀ G w (A : Array Value), Inv G w h → VRs G w A.toList args → Calls P f A w (Post G w h v h') := by
  have hle := Nat.le_of_ble_eq_true hn
  obtain ⟨q1, q2⟩ := hE.fns f fn hf
  refine ⟨⟨fn, q1, q2, by rw [hb]; rfl⟩, fun G w A I hA => ?_⟩
  have hAl : A.size = args.length := by have := hA.1; simpa using this
  -- the first slots
  have T0 : TmR G w fn.ntmps (setArgs 0 args .e) { tmps := A ++ Array.replicate (fn.ntmps - A.size) undef, defers := [] } := by
    refine ⟨by simp; omega, fun t u ht => ?_⟩
    rw [setArgs_get] at ht
    split at ht
    · rename_i hlt
      rw [Nat.sub_zero] at ht
      have hta : t < A.size := by omega
      have e : (A ++ Array.replicate (fn.ntmps - A.size) undef).getD t undef = A[t] := by
        rw [Array.getD_eq_getD_getElem?, Array.getElem?_append_left hta, Array.getElem?_eq_getElem hta]
        rfl
      rw [e]
      exact hA.2 t A[t] u (by simp [hta]) ht
    · rw [T.get_e] at ht; cases ht
  -- the body
  have fin : ∀ {ex : Ex} {tm : Tm} {h1 : H}, (ex = .normal ∨ ex = .ret) → evCode (call) E f fn.ntmps k c (setArgs 0 args .e) h = some (ex, tm, h1) →
      (match evRes E.ty tm h1 fn.results.toList with | some l => some (resOf l, h1) | none => none) = some (v, h') → Calls P f A w (Post G w h v h') := by
    intro ex tm h1 hex hc hr
    cases hres : evRes E.ty tm h1 fn.results.toList with
    | none => rw [hres] at hr; simp at hr
    | some l =>
      rw [hres] at hr
      simp only [Option.some.injEq, Prod.mk.injEq] at hr
      obtain ⟨rfl, rfl⟩ := hr
      refine calls_of_wp q1 hb ?_
      refine (code_sim hE hC f fn.ntmps k c (hE.plans f fn c hf hb) I T0 hc _ fun G' w' a' I' E' T' hd => ?_).1
      obtain ⟨Vs, k1, k2⟩ := res_sim hE.ty I' T' hres
      have hres' : ∃ V, (results fn a'.tmps).run P w' = .ok V w' ∧ VR G' w' V (resOf l) := by
        rw [results_eq]
        simp only [Sem.run_bind]
        have e : (fn.results.mapM (resOne a'.tmps)).run P w' = .ok Vs.toArray w' := by
          rw [Array.mapM_eq_mapM_toList, Sem.run_map, k1]
          rfl
        rw [e]
        simp only [Result.andThen_ok, Sem.run_pure]
        cases l with
        | nil =>
          have : Vs = [] := List.eq_nil_of_length_eq_zero k2.1
          subst this
          exact ⟨_, rfl, .tup #[] [] rfl fun i u x hu => by simp at hu⟩
        | cons v0 l =>
          obtain ⟨V0, Vs', rfl, j1, j2⟩ := k2.uncons
          cases l with
          | nil =>
            have : Vs' = [] := List.eq_nil_of_length_eq_zero j2.1
            subst this
            exact ⟨V0, by simp, j1⟩
          | cons v1 l =>
            obtain ⟨V1, Vs'', rfl, j3, j4⟩ := j2.uncons
            refine ⟨.tuple (V0 :: V1 :: Vs'').toArray, by simp, .tup _ _ (by have := k2.1; simpa using this) fun i u x hu hx => k2.2 i u x (by simpa using hu) hx⟩
      obtain ⟨V, r1, r2⟩ := hres'
      have hdf : a'.defers = [] := hd
      rcases hex with rfl | rfl
      · exact ⟨hdf, V, r1, G', V, rfl, r2, I', E'⟩
      · exact ⟨hdf, V, r1, G', V, rfl, r2, I', E'⟩
  cases hc : evCode call E f fn.ntmps k c (setArgs 0 args .e) h with
  | none => rw [hc] at he; simp [endL] at he
  | some r =>
    obtain ⟨ex, tm, h1⟩ := r
    rw [hc] at he
    cases ex with
    | normal => exact fin (.inl rfl) hc he
    | exit j => simp [endL] at he
    | ret => exact fin (.inr rfl) hc he

theorem fn_sim (hE : EnvOk P E) : ∀ k, CallOk P (evFn E k) := by
  intro k
  induction k with
  | zero => intro f args h v h' he; simp [evFn] at he
  | succ k ih =>
    intro f args h v h' he
    simp only [evFn] at he
    cases hp : E.prim f with
    | some p =>
      rw [hp] at he
      simp only at he
      obtain ⟨h1, h2⟩ := hE.prims f p hp
      exact ⟨h1, fun G w A I hA => h2 args h v h' he G w A I hA⟩
    | none =>
      rw [hp] at he
      simp only at he
      cases hf : E.fns f with
      | none => rw [hf] at he; simp at he
      | some fn =>
        rw [hf] at he
        simp only at he
        cases hb : fn.body with
        | none => rw [hb] at he; simp at he
        | some c =>
          rw [hb] at he
          simp only at he
          cases hn : Nat.ble args.length fn.ntmps with
          | false => rw [hn] at he; simp at he
          | true =>
            rw [hn] at he
            simp only [cond_true] at he
            refine body_sim hE ih (k := k) hf hb hn ?_
            rw [← he]
            rcases evCode (evFn E k) E f fn.ntmps k c (setArgs 0 args .e) h with _ | ⟨ex, tm, h'⟩
            · rfl
            · cases ex <;> rfl
end
end Go.Ev
