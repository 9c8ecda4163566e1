/- A type among a row's arguments, opened. -/
import Derived.Test.YtiifjjcoepgobaaYL
import Derived.Test.YtiifjjcoepgobaaEvU
import Derived.Test.YtiifjjcoepgobaaRows
set_option autoImplicit false
set_option maxRecDepth 100000
set_option linter.unusedVariables false
namespace Go.Proofs.Ytiifjjcoepgobaa.Env
open Go.Ev Go.ChangeShapes Go.WideShapes Go.ChangeAt Go.RowKit
theorem ka_none (w : World) : ∀ p ∈ (default : KA0).ka, p.2 w.heap[p.1]? ∧ p.1 < w.heap.size := fun p hp => by cases hp
theorem own : ownKnob Try.prog.godebug = none := by kernel_rfl
theorem laidOut : laidOutB Try.prog = true := by kernel_rfl
theorem open_ty {H' : Type} {enc : TypeId × Value → H'} {W : World} {sp : Nat → Bool} {held : Bool} {base : Nat} {v : Value} {d : DataW H'} {ps : List MemPlace} (hok : Value.okWide Try.prog W .any base 25 v) (h : DataW.Trod enc Try.prog W 0 sp held 25 v d ps) :
    ∃ t : Ty, fit t ∧ VR (G0 W) W v t.av := by
  obtain ⟨cs, h1, h2⟩ := trodAll_open tyS (by simp) h
  obtain ⟨T, rfl, hf⟩ := (shp_ty h2).1 rfl
  have hv : ∃ c, v = .agg c := by
    unfold Value.okWide at hok
    rw [Try.underlying25] at hok
    obtain ⟨c, rfl, _⟩ := hok
    exact ⟨c, rfl⟩
  obtain ⟨c, rfl⟩ := hv
  refine ⟨T, hf, ?_⟩
  obtain ⟨o, n, ks⟩ := T
  simp only [Value.cells] at h1
  exact .agg c _ (by have := h1.1; simpa using this) (fun i u x hu hx => h1.2 i u x (by simpa using hu) hx)
theorem open_tys {H' : Type} {enc : TypeId × Value → H'} {W : World} {sp : Nat → Bool} {held : Bool} {base : Nat} {v : Value} {d : DataW H'} {ps : List MemPlace} (hok : Value.okWide Try.prog W .any base 23 v) (h : DataW.Trod enc Try.prog W 0 sp held 23 v d ps) :
    ∃ ts : List Ty, ts.length ≤ 9223372036854775807 ∧ fits ts ∧ VR (G0 W) W v (.sl .no (Ty.avs ts)) := by
  obtain ⟨cs, h1, h2⟩ := trodAll_open tyS (by simp) h
  obtain ⟨ts, rfl, hl, hf⟩ := (shp_ty h2).2 rfl
  refine ⟨ts, hl, hf, ?_⟩
  have hone : v.cells = #[v] := by
    cases v with
    | agg c =>
      unfold Value.okWide at hok
      rw [Try.underlying23] at hok
      simp only at hok
      unfold Cell.okWide at hok
      rw [Try.underlying23] at hok
      simp only at hok
      unfold Cell.ok at hok
      rw [Try.underlying23] at hok
      simp at hok
    | _ => rfl
  rw [hone] at h1
  exact h1.2 0 v _ rfl rfl
end Go.Proofs.Ytiifjjcoepgobaa.Env
