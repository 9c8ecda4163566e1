/- The law UnifyMost answers true for every type and every row of types, and both read behind the call as they read before. -/
import Derived.Test.YtiifjjcoepgobaaYQ
import Derived.Test.YtiifjjcoepgobaaYRow
set_option autoImplicit false
set_option maxRecDepth 100000
set_option linter.unusedVariables false
namespace Go.Proofs.Ytiifjjcoepgobaa.UnifyMost
open Go.Ev Go.ChangeShapes Go.WideShapes Go.ChangeAt Go.RowKit Go.Proofs.Ytiifjjcoepgobaa.Env

theorem walk (t : Ty) (hf : fit t) (v0 : Value) {W : World} (hv0 : VR (G0 W) W v0 t.av) (bs : List Ty) (hl : bs.length ≤ 9223372036854775807) (hfs : fits bs) (v1 : Value) (hv1 : VR (G0 W) W v1 (.sl .no (Ty.avs bs))) (w : World) (hw : w = W := by rfl) : Calls Try.prog 6 #[v0, v1] W fun e w' => e = .returned (.bool true) ∧ Below W.heap.size W w' := by
  obtain ⟨h', hh⟩ := law6 t hf bs hfs
  obtain ⟨k, hk'⟩ := lim_ex hh
  refine ((fn_sim envM_ok k 6 _ _ _ _ hk').2 (G0 W) W #[v0, v1] (inv0 W (ka_none W)) (.cons hv0 (.cons hv1 (.nil _ _)))).mono fun e w' hp => ?_
  obtain ⟨G', V, he, hV, hI, hE⟩ := hp
  cases hV
  exact ⟨he, hE.below⟩

theorem lifted (os : Os) (started : os.Started) (H : Type) (enc : TypeId × Value → H) :
    ReturnsInHanded {} Try.checked os 6 .any (Rows.unifyMostSpec.pre6 enc Try.prog Try.f6 Rows.unifyMostRow.domain false) (Rows.unifyMostSpec.post enc Try.prog Try.f6 false true false false) := by
  refine returnsInHanded_of_change (C := Try.checked) own started (by kernel_rfl) Try.func6
    (ChangeSpec.witness6 (enc := enc) (C := Try.checked) false ⟨#[], #[.agg #[.string ⟨#[]⟩, .int .i64 0, .slice none 0 0], .slice none 0 0], []⟩ 8 (by kernel_rfl) (by kernel_rfl) (by kernel_rfl) (by kernel_rfl)) ?_
  intro W base args ds gs before hval0 hW hcnd _
  have hval : ∀ (j : Nat) t v, Try.f6.params[j]? = some t → args[j]? = some v → Value.okWide Try.prog W .any base t v := hval0
  have hW' := hW
  obtain ⟨p, q, hA0, hV, rfl, hfz, hnd⟩ := hW
  have hA : DataW.TrodAll enc Try.prog W 0 (fun _ => true) true Try.f6.params.toList args.toList ds p := hA0
  rw [Try.params6] at hA hval
  obtain ⟨v0, vs0, d0, ds0, p0, q0, hargs, rfl, rfl, h0, r0⟩ := trodAll_cons hA
  obtain ⟨v1, vs1, d1, ds1, p1, q1, rfl, rfl, rfl, h1, r1⟩ := trodAll_cons r0
  obtain ⟨rfl, rfl, rfl⟩ := trodAll_nil r1
  obtain rfl : args = #[v0, v1] := by cases args; simp_all
  obtain ⟨rfl, rfl⟩ := trodVars_none hV
  obtain ⟨t0, hf0, hv0⟩ := open_ty (hval 0 25 v0 rfl rfl) h0
  obtain ⟨t1, hl1, hf1, hv1⟩ := open_tys (hval 1 23 v1 rfl rfl) h1
  refine (walk t0 hf0 v0 hv0 t1 hl1 hf1 v1 hv1 W).mono fun e W' ⟨he, hb⟩ => ?_
  subst he
  exact ⟨_, rfl, post_of_below laidOut (fun t ht => by
    rw [Try.params6] at ht
    have hm : t ∈ [25, 23] := by simpa using ht
    have hall : ([25, 23].all fun u => Try.prog.readableRec u && decide (u < Try.prog.types.size)) = true := by kernel_rfl
    have := List.all_eq_true.1 hall t hm
    simp only [Bool.and_eq_true, decide_eq_true_eq] at this
    exact this) rfl rfl Try.underlying4 hW' rfl rfl rfl hb⟩
theorem over : Rows.unifyMostRow.holds Try.pinned (OpenSpec.ofChange Rows.unifyMostSpec) :=
  OpenClaim.holds_of_wide 6 Try.f6 rfl rfl rfl rfl rfl rfl rfl ⟨rfl, rfl, rfl, rfl, rfl⟩ rfl rfl rfl rfl rfl (by kernel_rfl) Try.func6 (by kernel_rfl)
    (of_decide_eq_true (by kernel_rfl)) (by unfold Func.isWrapper; first | (rw [if_pos (by decide +kernel)]; kernel_rfl) | (rw [if_neg (by decide +kernel)]; exact ⟨rfl, rfl⟩))
    (fun os started H enc _ => lifted os started H enc)
end Go.Proofs.Ytiifjjcoepgobaa.UnifyMost
namespace Go.Proofs.Ytiifjjcoepgobaa
theorem unifyMostProved : Rows.UnifyMostSaid := UnifyMost.over
#print axioms unifyMostProved
end Go.Proofs.Ytiifjjcoepgobaa
