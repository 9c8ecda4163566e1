/- The law SchemeLast answers true for every env and a bound, and all read behind the call as they read before. -/
import Derived.Test.YtcmbpfobdgijjaaSRow
set_option autoImplicit false
set_option maxRecDepth 100000
set_option linter.unusedVariables false
namespace Go.Proofs.Ytcmbpfobdgijjaa.SchemeLast
open Go.Ev Go.ChangeShapes Go.WideShapes Go.ChangeAt Go.RowKit Go.Proofs.Ytcmbpfobdgijjaa.Env

theorem walk (bs : List Bd) (hl : bs.length ≤ 9223372036854775807) (hf : ∀ b ∈ bs, b.fit) (v0 : Value) {W : World} (hv0 : VR (G0 W) W v0 (.sl .no (bds bs))) (b : Bd) (hb : b.fit) (v1 : Value) (hv1 : VR (G0 W) W v1 b.av) (w : World) (hw : w = W := by rfl) : Calls Try.prog 5 #[v0, v1] W fun e w' => e = .returned (.bool true) ∧ Below W.heap.size W w' := by
  obtain ⟨h', hh⟩ := law5 bs hl hf b hb
  obtain ⟨k, hk'⟩ := lim_ex hh
  refine ((fn_sim envZ_ok k 5 _ _ _ _ hk').2 (G0 W) W #[v0, v1] (inv0 W (ka_none W)) (.cons hv0 (.cons hv1 (.nil _ _)))).mono fun e w' hp => ?_
  obtain ⟨G', V, he, hV, hI, hE⟩ := hp
  cases hV
  exact ⟨he, hE.below⟩

theorem lifted (os : Os) (started : os.Started) (H : Type) (enc : TypeId × Value → H) :
    ReturnsInHanded {} Try.checked os 5 .any (Rows.schemeLastSpec.pre6 enc Try.prog Try.f5 Rows.schemeLastRow.domain false) (Rows.schemeLastSpec.post enc Try.prog Try.f5 false true false false) := by
  refine returnsInHanded_of_change (C := Try.checked) own started (by kernel_rfl) Try.func5
    (ChangeSpec.witness6 (enc := enc) (C := Try.checked) false ⟨#[], #[.slice none 0 0, .agg #[.string ⟨#[]⟩, .slice none 0 0, .string ⟨#[]⟩, .int .i64 0, .slice none 0 0]], []⟩ 8 (by kernel_rfl) (by kernel_rfl) (by kernel_rfl) (by kernel_rfl)) ?_
  intro W base args ds gs before hval0 hW hcnd _
  have hval : ∀ (j : Nat) t v, Try.f5.params[j]? = some t → args[j]? = some v → Value.okWide Try.prog W .any base t v := hval0
  have hW' := hW
  obtain ⟨p, q, hA0, hV, rfl, hfz, hnd⟩ := hW
  have hA : DataW.TrodAll enc Try.prog W 0 (fun _ => true) true Try.f5.params.toList args.toList ds p := hA0
  rw [Try.params5] at hA hval
  obtain ⟨v0, vs0, d0, ds0, p0, q0, hargs, rfl, rfl, h0, r0⟩ := trodAll_cons hA
  obtain ⟨v1, vs1, d1, ds1, p1, q1, rfl, rfl, rfl, h1, r1⟩ := trodAll_cons r0
  obtain ⟨rfl, rfl, rfl⟩ := trodAll_nil r1
  obtain rfl : args = #[v0, v1] := by cases args; simp_all
  obtain ⟨rfl, rfl⟩ := trodVars_none hV
  obtain ⟨t0, hl0, hf0, hv0⟩ := open_bds (hval 0 22 v0 rfl rfl) h0
  obtain ⟨t1, hf1, hv1⟩ := open_bd (hval 1 36 v1 rfl rfl) h1
  refine (walk t0 hl0 hf0 v0 hv0 t1 hf1 v1 hv1 W).mono fun e W' ⟨he, hb⟩ => ?_
  subst he
  exact ⟨_, rfl, post_of_below laidOut (fun t ht => by
    rw [Try.params5] at ht
    have hm : t ∈ [22, 36] := by simpa using ht
    have hall : ([22, 36].all fun u => Try.prog.readableRec u && decide (u < Try.prog.types.size)) = true := by kernel_rfl
    have := List.all_eq_true.1 hall t hm
    simp only [Bool.and_eq_true, decide_eq_true_eq] at this
    exact this) rfl rfl Try.underlying4 hW' rfl rfl rfl hb⟩
theorem over : Rows.schemeLastRow.holds Try.pinned (OpenSpec.ofChange Rows.schemeLastSpec) :=
  OpenClaim.holds_of_wide 5 Try.f5 rfl rfl rfl rfl rfl rfl rfl ⟨rfl, rfl, rfl, rfl, rfl⟩ rfl rfl rfl rfl rfl (by kernel_rfl) Try.func5 (by kernel_rfl)
    (of_decide_eq_true (by kernel_rfl)) (by unfold Func.isWrapper; first | (rw [if_pos (by decide +kernel)]; kernel_rfl) | (rw [if_neg (by decide +kernel)]; exact ⟨rfl, rfl⟩))
    (fun os started H enc _ => lifted os started H enc)
end Go.Proofs.Ytcmbpfobdgijjaa.SchemeLast
namespace Go.Proofs.Ytcmbpfobdgijjaa
theorem schemeLastProved : Rows.SchemeLastSaid := SchemeLast.over
#print axioms schemeLastProved
end Go.Proofs.Ytcmbpfobdgijjaa
