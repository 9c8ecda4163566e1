/- The machine's tables for one program, and the checks that make them good. -/
import Derived.Test.YtncccgglillmoaaGreatDoorEvS
set_option autoImplicit false
set_option linter.unusedSectionVars false
set_option linter.unusedVariables false
set_option linter.unusedSimpArgs false
namespace Go.Ev
variable [MT]
variable [Inhabited KA0]

namespace T
variable {α : Type}
/-- What lies in a trie: key k at hand is a * k + b. -/
def rows : T α → Nat → Nat → List (Nat × α)
  | .e, _, _ => []
  | .n o l r, a, b => (match o with | none => [] | some v => [(b, v)]) ++ (rows l (2 * a) (a + b) ++ rows r (2 * a) (2 * a + b))

theorem rows_mem {t : T α} {k : Nat} {v : α} (h : t.get k = some v) (a b : Nat) : (a * k + b, v) ∈ t.rows a b := by
  induction t generalizing k a b with
  | e => cases k <;> simp [get] at h
  | n o l r ihl ihr =>
    cases k with
    | zero =>
      simp only [get] at h
      subst h
      simp [rows]
    | succ k =>
      simp only [get] at h
      by_cases hk : k % 2 = 0
      · have : Nat.beq (Nat.mod k 2) 0 = true := by
          show Nat.beq (k % 2) 0 = true
          rw [hk]; rfl
        rw [this] at h
        have := ihl h (2 * a) (a + b)
        simp only [rows, List.mem_append]
        refine .inr (.inl ?_)
        have e : 2 * a * Nat.div k 2 + (a + b) = a * (k + 1) + b := by
          have : k = 2 * (k / 2) := by omega
          show 2 * a * (k / 2) + (a + b) = a * (k + 1) + b
          conv => rhs; rw [this]
          rw [Nat.mul_add, show a * (2 * (k / 2)) = 2 * a * (k / 2) by rw [Nat.mul_comm 2 a, Nat.mul_assoc]]
          omega
        rwa [e] at this
      · have h0 : Nat.beq (Nat.mod k 2) 0 = false := by
          cases hb : Nat.beq (Nat.mod k 2) 0 with
          | false => rfl
          | true => exact absurd (Nat.eq_of_beq_eq_true hb) hk
        rw [h0] at h
        have := ihr h (2 * a) (2 * a + b)
        simp only [rows, List.mem_append]
        refine .inr (.inr ?_)
        have e : 2 * a * Nat.div k 2 + (2 * a + b) = a * (k + 1) + b := by
          have : k = 2 * (k / 2) + 1 := by omega
          show 2 * a * (k / 2) + (2 * a + b) = a * (k + 1) + b
          conv => rhs; rw [this]
          rw [Nat.mul_add, Nat.mul_add, show a * (2 * (k / 2)) = 2 * a * (k / 2) by rw [Nat.mul_comm 2 a, Nat.mul_assoc]]
          omega
        rwa [e] at this
theorem mem_rows {t : T α} {k : Nat} {v : α} (h : t.get k = some v) : (k, v) ∈ t.rows 1 0 := by
  have := rows_mem h 1 0
  simpa using this
end T

def isIn (l : List (Nat × Nat)) (f id : Nat) : Bool := l.any fun p => Nat.beq p.1 f && Nat.beq p.2 id

theorem map_at {α β : Type} {f g : α → β} {l : List α} (h : l.map f = l.map g) {x : α} (hx : x ∈ l) : f x = g x := by
  induction l with
  | nil => simp at hx
  | cons a l ih =>
    simp only [List.map_cons, List.cons.injEq] at h
    rcases List.mem_cons.1 hx with e | e
    · subst e; exact h.1
    · exact ih h.2 e

def planLook (pt : T (T (List PE))) (f id : Nat) : Option (List PE) :=
  match pt.get f with
  | none => none
  | some t => t.get id

def mkEnv (tt : T TyI) (ft : T Func) (pt : T (T (List PE))) (pr : Nat → Option (List AV → H → Option (AV × H))) : Env :=
  { ty := tt.get, fns := ft.get, plan := planLook pt, prim := pr }

theorem mkEnv_ok {P : Program} {tt : T TyI} {ft : T Func} {pt : T (T (List PE))} {pr : Nat → Option (List AV → H → Option (AV × H))}
    (mixed : P.follows .mixedOrders = true)
    (hty : (tt.rows 1 0).map (fun r => tyOf P r.1) = (tt.rows 1 0).map (fun r => some r.2))
    (hfn : (ft.rows 1 0).map (fun r => P.funcs[r.1]?) = (ft.rows 1 0).map (fun r => some r.2))
    (hnm : (ft.rows 1 0).map (fun r => r.2.name == "runtime.NumGoroutine") = (ft.rows 1 0).map (fun _ => false))
    (hpl : (ft.rows 1 0).map (fun r => match r.2.body with | none => true | some c => codeOk (planLook pt r.1) (fun _ => none) c) = (ft.rows 1 0).map (fun _ => true))
    (prims : ∀ f p, pr f = some p → (∃ fn, P.funcs[f]? = some fn ∧ (fn.name == "runtime.NumGoroutine") = false ∧ fn.body.isNone = false) ∧
      ∀ args h v h', p args h = some (v, h') → ∀ G w (A : Array Value), Inv G w h → VRs G w A.toList args → Calls P f A w (Post G w h v h')) :
    EnvOk P (mkEnv tt ft pt pr) where
  mixed := mixed
  ty := fun t i h => map_at hty (T.mem_rows h)
  fns := fun f fn h => ⟨map_at hfn (T.mem_rows h), map_at hnm (T.mem_rows h)⟩
  plans := fun f fn c h hb => by
    have := map_at hpl (T.mem_rows h)
    simp only [hb] at this
    exact this
  prims := prims

def altLook (at' : T (T Alt)) (f id : Nat) : Option Alt :=
  match at'.get f with
  | none => none
  | some t => t.get id

def mkEnvA (tt : T TyI) (ft : T Func) (pt : T (T (List PE))) (al : T (T Alt)) (pr : Nat → Option (List AV → H → Option (AV × H))) : Env :=
  { ty := tt.get, fns := ft.get, plan := planLook pt, prim := pr, alt := altLook al }

theorem mkEnvA_ok {P : Program} {tt : T TyI} {ft : T Func} {pt : T (T (List PE))} {al : T (T Alt)} {pr : Nat → Option (List AV → H → Option (AV × H))}
    (mixed : P.follows .mixedOrders = true)
    (hty : (tt.rows 1 0).map (fun r => tyOf P r.1) = (tt.rows 1 0).map (fun r => some r.2))
    (hfn : (ft.rows 1 0).map (fun r => P.funcs[r.1]?) = (ft.rows 1 0).map (fun r => some r.2))
    (hnm : (ft.rows 1 0).map (fun r => r.2.name == "runtime.NumGoroutine") = (ft.rows 1 0).map (fun _ => false))
    (hpl : (ft.rows 1 0).map (fun r => match r.2.body with | none => true | some c => codeOk (planLook pt r.1) (altLook al r.1) c) = (ft.rows 1 0).map (fun _ => true))
    (prims : ∀ f p, pr f = some p → (∃ fn, P.funcs[f]? = some fn ∧ (fn.name == "runtime.NumGoroutine") = false ∧ fn.body.isNone = false) ∧
      ∀ args h v h', p args h = some (v, h') → ∀ G w (A : Array Value), Inv G w h → VRs G w A.toList args → Calls P f A w (Post G w h v h')) :
    EnvOk P (mkEnvA tt ft pt al pr) where
  mixed := mixed
  ty := fun t i h => map_at hty (T.mem_rows h)
  fns := fun f fn h => ⟨map_at hfn (T.mem_rows h), map_at hnm (T.mem_rows h)⟩
  plans := fun f fn c h hb => by
    have := map_at hpl (T.mem_rows h)
    simp only [hb] at this
    exact this
  prims := prims

end Go.Ev
