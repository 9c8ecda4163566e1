/- Calls that hang on nothing, taken by what they come to. -/
import Derived.Test.YtncccgglillmoaaGreatDoorEvU
set_option autoImplicit false
set_option linter.unusedSectionVars false
set_option linter.unusedVariables false
set_option linter.unusedSimpArgs false
namespace Go.Ev
variable [MT]
variable [Inhabited KA0]

def resIs (b : Bool) : Option (AV × H) → Bool
  | some (.bool c, _) => b == c
  | _ => false
theorem resIs_some {b : Bool} {x : Option (AV × H)} (h : resIs b x = true) : ∃ h', x = some (.bool b, h') := by
  cases x with
  | none => simp [resIs] at h
  | some p =>
    obtain ⟨v, h'⟩ := p
    cases v <;> simp [resIs] at h
    exact ⟨h', by rw [h]⟩

def addPrim (E : Env) (f : Nat) (p : List AV → H → Option (AV × H)) : Env := { E with prim := fun g => bif Nat.beq g f then some p else E.prim g }
def PrimOk (P : Program) (f : Nat) (p : List AV → H → Option (AV × H)) : Prop :=
  (∃ fn, P.funcs[f]? = some fn ∧ (fn.name == "runtime.NumGoroutine") = false ∧ fn.body.isNone = false) ∧
    ∀ args h v h', p args h = some (v, h') → ∀ G w (A : Array Value), Inv G w h → VRs G w A.toList args → Calls P f A w (Post G w h v h')
theorem addPrim_ok {P : Program} {E : Env} (hE : EnvOk P E) {f : Nat} {p : List AV → H → Option (AV × H)} (hp : PrimOk P f p) : EnvOk P (addPrim E f p) where
  mixed := hE.mixed
  ty := hE.ty
  fns := hE.fns
  plans := hE.plans
  prims := fun g q h => by
    simp only [addPrim] at h
    cases hb : Nat.beq g f with
    | false => rw [hb] at h; exact hE.prims g q h
    | true =>
      rw [hb] at h
      simp only [cond_true, Option.some.injEq] at h
      subst h
      obtain rfl := Nat.eq_of_beq_eq_true hb
      exact hp

/-- A call without arguments that answers a truth value: nothing of it stays. -/
def primBool (b : Bool) : List AV → H → Option (AV × H)
  | [], h => some (.bool b, h)
  | _, _ => none
theorem primBool_ok {P : Program} {E : Env} (hE : EnvOk P E) {f k : Nat} {b : Bool} (hev : resIs b (evFn E k f [] ⟨.e, 0⟩) = true) : PrimOk P f (primBool b) := by
  obtain ⟨h0, hh⟩ := resIs_some hev
  have S := fn_sim hE k f [] ⟨.e, 0⟩ _ _ hh
  refine ⟨S.1, fun args h v h' hp G w A I hA => ?_⟩
  unfold primBool at hp
  split at hp
  · simp only [Option.some.injEq, Prod.mk.injEq] at hp
    obtain ⟨rfl, rfl⟩ := hp
    obtain rfl : A = #[] := by
      have := hA.1
      obtain ⟨l⟩ := A
      simpa using this
    refine (S.2 (G0 w) w #[] (inv0 w fun p hp => ⟨(I.ka p hp).1, (I.ka p hp).2.1⟩) (.nil _ _)).mono ?_
    rintro e w' ⟨G', V, rfl, hV, hI, hX⟩
    cases hV
    have B := hX.below
    exact ⟨G, _, rfl, .bool b, grow_inv I B.os B.tape B.output B.size (fun j hj => B.block j hj), grow_ext G _ B.os B.tape B.output B.size (fun j hj => B.block j hj)⟩
  · simp at hp
end Go.Ev
