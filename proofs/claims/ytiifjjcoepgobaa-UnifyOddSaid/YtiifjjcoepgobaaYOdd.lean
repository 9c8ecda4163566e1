/- The law UnifyOdd answers true for every number, and the number reads behind the call as it read before. -/
import Derived.Test.YtiifjjcoepgobaaYEnv
import Derived.Test.YtiifjjcoepgobaaEvU
import Derived.Test.YtiifjjcoepgobaaRows
set_option autoImplicit false
set_option maxRecDepth 100000
namespace Go.Proofs.Ytiifjjcoepgobaa.UnifyOdd
open Go.Ev Go.ChangeShapes Go.WideShapes Go.ChangeAt Go.RowKit Go.Proofs.Ytiifjjcoepgobaa.Env
set_option linter.unusedVariables false

def resIs (b : Bool) : Option (AV × H) → Bool
  | some (.bool c, _) => b == c
  | _ => false
theorem resIs_some {b : Bool} {x : Option (AV × H)} (h : resIs b x = true) : ∃ h', x = some (.bool b, h') := by
  cases x with
  | none => simp [resIs] at h
  | some p =>
    obtain ⟨v, h'⟩ := p
    cases v <;> simp [resIs] at h
    exact ⟨h', by rw [h]⟩

theorem t0 : resIs true (evFn env 200 7 [.int .i64 0] ⟨.e, 0⟩) = true := by kernel_rfl
theorem t1 : resIs true (evFn env 200 7 [.int .i64 1] ⟨.e, 0⟩) = true := by kernel_rfl
theorem t2 : resIs true (evFn env 200 7 [.int .i64 2] ⟨.e, 0⟩) = true := by kernel_rfl
theorem t3 : resIs true (evFn env 200 7 [.int .i64 3] ⟨.e, 0⟩) = true := by kernel_rfl
theorem t4 : resIs true (evFn env 200 7 [.int .i64 4] ⟨.e, 0⟩) = true := by kernel_rfl
theorem t5 : resIs true (evFn env 200 7 [.int .i64 5] ⟨.e, 0⟩) = true := by kernel_rfl
theorem tn (m : Nat) : resIs true (evFn env 200 7 [.int .i64 (.negSucc m)] ⟨.e, 0⟩) = true := by kernel_rfl
theorem tp (m : Nat) : resIs true (evFn env 200 7 [.int .i64 (.ofNat (m + 6))] ⟨.e, 0⟩) = true := by kernel_rfl
theorem all (n : Int) : resIs true (evFn env 200 7 [.int .i64 n] ⟨.e, 0⟩) = true := by
  cases n with
  | negSucc m => exact tn m
  | ofNat m =>
    rcases m with _ | _ | _ | _ | _ | _ | m
    · exact t0
    · exact t1
    · exact t2
    · exact t3
    · exact t4
    · exact t5
    · exact tp m

theorem walk (n : Int) (w : World) : Calls Try.prog 7 #[.int .i64 n] w fun e w' => e = .returned (.bool true) ∧ Below w.heap.size w w' := by
  obtain ⟨h', hh⟩ := resIs_some (all n)
  refine ((fn_sim env_ok 200 7 _ _ _ _ hh).2 (G0 w) w #[.int .i64 n] (inv0 w) (.cons (.int .i64 n) (.nil _ _))).mono fun e w' hp => ?_
  obtain ⟨G', V, he, hV, hI, hE⟩ := hp
  cases hV
  exact ⟨he, hE.below⟩

theorem own : ownKnob Try.prog.godebug = none := by kernel_rfl
theorem laidOut : laidOutB Try.prog = true := by kernel_rfl
theorem lifted (os : Os) (started : os.Started) (H : Type) (enc : TypeId × Value → H) :
    ReturnsInHanded {} Try.checked os 7 .any (Rows.unifyOddSpec.pre6 enc Try.prog Try.f7 Rows.unifyOddRow.domain false) (Rows.unifyOddSpec.post enc Try.prog Try.f7 false true false false) := by
  refine returnsInHanded_of_change (C := Try.checked) own started (by kernel_rfl) Try.func7
    (ChangeSpec.witness6 (enc := enc) (C := Try.checked) false ⟨#[], #[.int .i64 0], []⟩ 8 (by kernel_rfl) (by kernel_rfl) (by kernel_rfl) (by kernel_rfl)) ?_
  intro W base args ds gs before hval0 hW hcnd _
  have hval : ∀ (j : Nat) t v, Try.f7.params[j]? = some t → args[j]? = some v → Value.okWide Try.prog W .any base t v := hval0
  have hW' := hW
  obtain ⟨p, q, hA0, hV, rfl, hfz, hnd⟩ := hW
  have hA : DataW.TrodAll enc Try.prog W 0 (fun _ => true) true Try.f7.params.toList args.toList ds p := hA0
  rw [Try.params7] at hA hval
  obtain ⟨v0, vs0, d0, ds0, p0, q0, hargs, rfl, rfl, h0, r0⟩ := trodAll_cons hA
  obtain ⟨rfl, rfl, rfl⟩ := trodAll_nil r0
  obtain rfl : args = #[v0] := by cases args; simp_all
  obtain ⟨rfl, rfl⟩ := trodVars_none hV
  obtain ⟨a0, rfl, rfl, rfl, w0⟩ := open_int Try.underlying3 (hval 0 3 v0 rfl rfl) h0
  refine (walk a0 W).mono fun e W' ⟨he, hb⟩ => ?_
  subst he
  exact ⟨_, rfl, post_of_below laidOut (fun t ht => by
    rw [Try.params7] at ht
    obtain rfl : t = 3 := by simpa using ht
    exact ⟨by kernel_rfl, of_decide_eq_true (by kernel_rfl)⟩) rfl rfl Try.underlying4 hW' rfl rfl rfl hb⟩

theorem over : Rows.unifyOddRow.holds Try.pinned (OpenSpec.ofChange Rows.unifyOddSpec) :=
  OpenClaim.holds_of_wide 7 Try.f7 rfl rfl rfl rfl rfl rfl rfl ⟨rfl, rfl, rfl, rfl, rfl⟩ rfl rfl rfl rfl rfl (by kernel_rfl) Try.func7 (by kernel_rfl)
    (of_decide_eq_true (by kernel_rfl)) (by unfold Func.isWrapper; first | (rw [if_pos (by decide +kernel)]; kernel_rfl) | (rw [if_neg (by decide +kernel)]; exact ⟨rfl, rfl⟩))
    (fun os started H enc _ => lifted os started H enc)
end Go.Proofs.Ytiifjjcoepgobaa.UnifyOdd
namespace Go.Proofs.Ytiifjjcoepgobaa
theorem unifyOddProved : Rows.UnifyOddSaid := UnifyOdd.over
#print axioms unifyOddProved
end Go.Proofs.Ytiifjjcoepgobaa
