/- More fuel, the same answer; runs with enough fuel. -/
import Derived.Test.YtncccgglillmoaaGreatDoorEvW
set_option autoImplicit false
set_option linter.unusedSectionVars false
set_option linter.unusedVariables false
set_option linter.unusedSimpArgs false
namespace Go.Ev
variable [MT]

namespace T
variable {α : Type}
theorem get_set_ite (t : T α) (k j : Nat) (v : α) : (t.set k v).get j = if j = k then some v else t.get j := by
  by_cases h : j = k
  · subst h; rw [if_pos rfl, get_set]
  · rw [if_neg h, get_set_ne _ _ h]
end T

def Sub (c c' : CallF) : Prop := ∀ f args h r, c f args h = some r → c' f args h = some r

section
variable {call call' : CallF} {ty : Nat → Option TyI} {n : Nat} {ops : Array Oper}

theorem evAct_mono (hc : Sub call call') {tm : Tm} {h : H} {o : Op} {r : AV × H} (he : evAct call ty tm h o = some r) : evAct call' ty tm h o = some r := by
  unfold evAct at he ⊢
  split at he
  · split at he
    · exact hc _ _ _ _ he
    · simp at he
  · exact he
theorem evOne_mono (hc : Sub call call') {o : Oper} {tm : Tm} {h : H} {r : Tm × H} (he : evOne call ty n ops o tm h = some r) : evOne call' ty n ops o tm h = some r := by
  unfold evOne at he ⊢
  split at he
  · simp at he
  · exact he
  · rename_i hw
    cases ha : evAct call ty tm h o.op with
    | none => rw [ha] at he; simp at he
    | some p =>
      rw [ha] at he
      rw [evAct_mono hc ha]
      exact he
theorem evSeq_mono (hc : Sub call call') : ∀ {l : List Oper} {tm : Tm} {h : H} {r : Tm × H}, evSeq call ty n ops l tm h = some r → evSeq call' ty n ops l tm h = some r
  | [], tm, h, r, he => he
  | o :: l, tm, h, r, he => by
    simp only [evSeq] at he ⊢
    cases ho : evOne call ty n ops o tm h with
    | none => rw [ho] at he; simp at he
    | some p =>
      rw [ho] at he
      rw [evOne_mono hc ho]
      exact evSeq_mono hc he
theorem evPlan_mono (hc : Sub call call') : ∀ {l : List PE} {tm : Tm} {h : H} {r : Tm × H}, evPlan call ty n ops l tm h = some r → evPlan call' ty n ops l tm h = some r
  | [], tm, h, r, he => he
  | p :: l, tm, h, r, he => by
    simp only [evPlan] at he ⊢
    split at he
    · simp at he
    · rename_i o ho
      cases h1 : evOne call ty n ops o tm h with
      | none => rw [h1] at he; simp at he
      | some q =>
        rw [h1] at he
        simp only at he
        rw [evOne_mono hc h1]
        simp only
        cases hr : recheck ty ops q.1 q.2 p.chk with
        | false => rw [hr] at he; simp at he
        | true =>
          rw [hr] at he
          simp only [cond_true] at he ⊢
          exact evPlan_mono hc he
theorem evAlt_mono (hc : Sub call call') : ∀ {al : Alt} {os : Array Oper} {tm : Tm} {h : H} {r : Tm × H}, evAlt call ty n os al tm h = some r → evAlt call' ty n os al tm h = some r
  | .leaf pl, os, tm, h, r, he => evPlan_mono hc he
  | .split a b x y, os, tm, h, r, he => by
    simp only [evAlt] at he ⊢
    cases h1 : evAlt call ty n (addEdge os b a) x tm h with
    | none => rw [h1] at he; simp at he
    | some p =>
      cases h2 : evAlt call ty n (addEdge os a b) y tm h with
      | none => rw [h1, h2] at he; simp at he
      | some q =>
        rw [h1, h2] at he
        rw [evAlt_mono hc h1, evAlt_mono hc h2]
        exact he
theorem evCode_mono (hc : Sub call call') {E : Env} {f : Nat} : ∀ (k k' : Nat) (c : Code) {tm : Tm} {h : H} {r : Ex × Tm × H}, k ≤ k' → evCode call E f n k c tm h = some r → evCode call' E f n k' c tm h = some r
  | 0, _, _, _, _, _, _, he => by simp [evCode] at he
  | k + 1, 0, _, _, _, _, hk, _ => by omega
  | k + 1, k' + 1, c, tm, h, r, hk, he => by
    have hk' : k ≤ k' := by omega
    have ih := fun c tm h r => evCode_mono hc (E := E) (f := f) k k' c (tm := tm) (h := h) (r := r) hk'
    cases c <;> simp only [evCode, reduceCtorEq] at he ⊢
    case skip => exact he
    case label => exact he
    case exit => exact he
    case ret => exact he
    case region id os dr =>
      cases dr with
      | false =>
        simp only at he ⊢
        cases hs : evSeq call E.ty n os os.toList tm h with
        | none => rw [hs] at he; simp at he
        | some p => rw [hs] at he; rw [evSeq_mono hc hs]; exact he
      | true =>
        simp only at he ⊢
        cases hp : E.plan f id with
        | none =>
          rw [hp] at he
          simp only at he ⊢
          cases hal : E.alt f id with
          | none => rw [hal] at he; simp at he
          | some al =>
            rw [hal] at he
            simp only at he ⊢
            cases hs : evAlt call E.ty n os al tm h with
            | none => rw [hs] at he; simp at he
            | some p => rw [hs] at he; rw [evAlt_mono hc hs]; exact he
        | some pl =>
          rw [hp] at he
          simp only at he ⊢
          cases hs : evPlan call E.ty n os pl tm h with
          | none => rw [hs] at he; simp at he
          | some p => rw [hs] at he; rw [evPlan_mono hc hs]; exact he
    case seq a b =>
      cases ha : evCode call E f n k a tm h with
      | none => rw [ha] at he; simp at he
      | some p =>
        obtain ⟨ex, tm1, h1⟩ := p
        rw [ha] at he
        rw [ih _ _ _ _ ha]
        cases ex with
        | normal => exact ih _ _ _ _ he
        | exit j => exact he
        | ret => exact he
    case cond c a b =>
      split at he
      · rename_i t hv
        cases t with
        | true => exact ih _ _ _ _ he
        | false => exact ih _ _ _ _ he
      · simp at he
    case block id b =>
      cases ha : evCode call E f n k b tm h with
      | none => rw [ha] at he; simp at he
      | some p => rw [ha] at he; rw [ih _ _ _ _ ha]; exact he
    case loop b =>
      cases ha : evCode call E f n k b tm h with
      | none => rw [ha] at he; simp at he
      | some p =>
        obtain ⟨ex, tm1, h1⟩ := p
        rw [ha] at he
        rw [ih _ _ _ _ ha]
        cases ex with
        | normal => exact ih _ _ _ _ he
        | exit j => exact he
        | ret => exact he
end

theorem evFn_mono {E : Env} : ∀ (k k' : Nat), k ≤ k' → Sub (evFn E k) (evFn E k')
  | 0, _, _, f, args, h, r, he => by simp [evFn] at he
  | k + 1, 0, hk, _, _, _, _, _ => by omega
  | k + 1, k' + 1, hk, f, args, h, r, he => by
    have hk' : k ≤ k' := by omega
    have ih := evFn_mono (E := E) k k' hk'
    simp only [evFn] at he ⊢
    split at he
    · exact he
    · split at he
      · simp at he
      · rename_i fn hfn
        split at he
        · simp at he
        · rename_i c hb
          cases hl : Nat.ble args.length fn.ntmps with
          | false => rw [hl] at he; simp at he
          | true =>
            rw [hl] at he
            simp only [cond_true] at he ⊢
            cases hcd : evCode (evFn E k) E f fn.ntmps k c (setArgs 0 args .e) h with
            | none => rw [hcd] at he; simp at he
            | some p =>
              rw [hcd] at he
              rw [evCode_mono ih k k' c hk' hcd]
              exact he

/-- With enough fuel. -/
def Run (E : Env) (f : Nat) (args : List AV) (h : H) (r : AV × H) : Prop := ∃ K, ∀ k, K ≤ k → evFn E k f args h = some r
theorem Run.of {E : Env} {f k : Nat} {args : List AV} {h : H} {r : AV × H} (he : evFn E k f args h = some r) : Run E f args h r := ⟨k, fun k' hk => evFn_mono k k' hk f args h r he⟩

/-! ### For symbolic runs -/
theorem blt_dec (a b : Nat) : Nat.blt a b = decide (a < b) := by
  by_cases h : a < b
  · rw [blt_nat.2 h]; simp [h]
  · rw [blt_no h]; simp [h]
theorem ble_dec (a b : Nat) : Nat.ble a b = decide (a ≤ b) := by
  by_cases h : a ≤ b
  · rw [Nat.ble_eq_true_of_le h]; simp [h]
  · cases hb : Nat.ble a b with
    | true => exact absurd (Nat.le_of_ble_eq_true hb) h
    | false => simp [h]
theorem beq_dec (a b : Nat) : Nat.beq a b = decide (a = b) := by
  by_cases h : a = b
  · rw [beq_nat.2 h]; simp [h]
  · rw [beq_no h]; simp [h]
/-- The bodies of a code's loops, in order. -/
def loops : Code → List Code
  | .seq a b => loops a ++ loops b
  | .cond _ a b => loops a ++ loops b
  | .block _ b => loops b
  | .loop b => b :: loops b
  | _ => []
def loopOf (f : Func) (i : Nat) : Code :=
  match f.body with
  | none => .skip
  | some c => ((loops c)[i]?).getD .skip
/-- A part of a code: 0 goes to the first part, else to the second. -/
def sub : List Nat → Code → Code
  | [], c => c
  | 0 :: p, .seq a _ => sub p a
  | _ :: p, .seq _ b => sub p b
  | 0 :: p, .cond _ a _ => sub p a
  | _ :: p, .cond _ _ b => sub p b
  | _ :: p, .block _ b => sub p b
  | _ :: p, .loop b => sub p b
  | _, c => c
def codeAt (f : Func) (p : List Nat) : Code :=
  match f.body with
  | none => .skip
  | some c => sub p c
theorem run_seq {call : CallF} {E : Env} {f n k : Nat} {a b : Code} {tm tm1 : Tm} {h h1 : H} {r : Option (Ex × Tm × H)} (ha : evCode call E f n k a tm h = some (.normal, tm1, h1)) (hb : evCode call E f n k b tm1 h1 = r) :
    evCode call E f n (k + 1) (.seq a b) tm h = r := by
  simp only [evCode, ha, hb]
theorem run_exit {call : CallF} {E : Env} {f n k id : Nat} {b : Code} {tm tm1 : Tm} {h h1 : H} (hb : evCode call E f n k b tm h = some (.exit id, tm1, h1)) : evCode call E f n (k + 1) (.block id b) tm h = some (.normal, tm1, h1) := by
  simp only [evCode, hb, beq_dec, decide_true, cond_true]
end Go.Ev
