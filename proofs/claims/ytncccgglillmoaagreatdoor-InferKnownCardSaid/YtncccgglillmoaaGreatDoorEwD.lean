/- A primitive of values alone out of a proof about calls. -/
import Derived.Test.YtncccgglillmoaaGreatDoorEwC
set_option autoImplicit false
set_option linter.unusedSectionVars false
set_option linter.unusedVariables false
namespace Go.Ev
variable [MT]
section
variable [Inhabited KA0] {P : Program}
/-- Old blocks as they were. -/
structure Old (w w' : World) : Prop where
  os : w'.os = w.os
  tape : w'.tape = w.tape
  output : w'.output = w.output
  size : w.heap.size ≤ w'.heap.size
  same : ∀ j, j < w.heap.size → w'.heap[j]? = w.heap[j]?
theorem primVal_direct {f : Nat} {fn : Func} (q1 : P.funcs[f]? = some fn) (q2 : (fn.name == "runtime.NumGoroutine") = false) (q3 : fn.body.isNone = false) {p : List AV → Option AV}
    (hp : ∀ args v, p args = some v → ∃ args', AV.wks 0 args args' ∧ ∀ (G : Gh) (w : World) (A : Array Value), Inv (Gp G) w ⟨.e, 0⟩ → VRs (Gp G) w A.toList args' →
      Calls P f A w fun e w' => ∃ V, e = .returned V ∧ Old w w' ∧ ∀ G' : Gh, (∀ b, w.heap.size ≤ b → G'.fr b = none) → VR G' w' V v) : PrimOk P f (primVal p) := by
  refine ⟨⟨fn, q1, q2, q3⟩, fun args h v hk he G w A I hA => ?_⟩
  unfold primVal at he
  cases hv : p args with
  | none => rw [hv] at he; simp at he
  | some v0 =>
    rw [hv] at he
    simp only [Option.some.injEq, Prod.mk.injEq] at he
    obtain ⟨rfl, rfl⟩ := he
    obtain ⟨args', hwa, hc⟩ := hp args v0 hv
    have hA' : VRs (Gp G) w A.toList args' := VRs.wk (n := 0) (G := G) (G' := Gp G) (fun b o v s => s) (fun id b hi => by omega) (fun id m v hi => by omega) hA hwa
    refine (hc G w A (invp I) hA').mono ?_
    rintro e w' ⟨V, rfl, O, hV⟩
    refine ⟨G, V, rfl, hV G fun b hb => ?_, grow_inv I O.os O.tape O.output O.size O.same, grow_ext G _ O.os O.tape O.output O.size O.same⟩
    cases hf : G.fr b with
    | none => rfl
    | some k => exact absurd (I.frb b k hf).2 (by omega)
end
end Go.Ev
