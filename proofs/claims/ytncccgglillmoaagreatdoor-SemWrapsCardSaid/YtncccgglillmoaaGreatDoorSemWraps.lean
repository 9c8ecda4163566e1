/- The law SemWraps answers true for every two numbers, and the numbers read behind the call as they read before. -/
import Derived.Test.YtncccgglillmoaaGreatDoorZV
import Derived.Test.YtncccgglillmoaaGreatDoorZRow
import Derived.Test.YtncccgglillmoaaGreatDoorEvU
set_option autoImplicit false
set_option maxRecDepth 100000
set_option maxHeartbeats 4000000
set_option linter.unusedVariables false
namespace Go.Proofs.YtncccgglillmoaaGreatDoor.SemWraps
open Go.Ev Go.ChangeShapes Go.WideShapes Go.ChangeAt Go.RowKit Go.Proofs.YtncccgglillmoaaGreatDoor.Env

theorem walk (a b : Int) (w : World) (hk : ∀ p ∈ (default : KA0).ka, p.2 w.heap[p.1]? ∧ p.1 < w.heap.size) : Calls Tryz.prog 4 #[.int .i64 a, .int .i64 b] w fun e w' => e = .returned (.bool true) ∧ Below w.heap.size w w' := by
  obtain ⟨h', hh⟩ := wraps_all a b
  obtain ⟨k, hk'⟩ := lim_ex hh
  refine ((fn_sim EW_ok k 4 _ _ _ _ hk').2 (G0 w) w #[.int .i64 a, .int .i64 b] (inv0 w hk) (.cons (.int .i64 a) (.cons (.int .i64 b) (.nil _ _)))).mono fun e w' hp => ?_
  obtain ⟨G', V, he, hV, hI, hE⟩ := hp
  cases hV
  exact ⟨he, hE.below⟩

theorem lifted (os : Os) (started : os.Started) (H : Type) (enc : TypeId × Value → H) :
    ReturnsInHanded {} Tryz.checked os 4 .any (fun w args => (Rows.semWrapsSpec.pre enc Tryz.prog Tryz.f4 [] false w args ∧ laidMetH Tryz.prog laidL w) ∧ sizedMet enc Tryz.prog Tryz.f4 (OpenSpec.ofChange Rows.semWrapsSpec) false w args) (Rows.semWrapsSpec.post enc Tryz.prog Tryz.f4 false true false false) := by
  refine returnsInHanded_of_change_and (C := Tryz.checked) (X := fun w _ => laidMetH Tryz.prog laidL w) (fun _ _ _ hh h => h.of_heap hh) own started (by kernel_rfl) Tryz.func4
    (ChangeSpec.witness_shaped (enc := enc) (C := Tryz.checked) (os := os) (X := fun w _ => laidMetH Tryz.prog laidL w) false (World.doorLaid Tryz.prog 4000 os) #[.int .i64 0, .int .i64 0] 8 (by kernel_rfl) (shaped os _) (by kernel_rfl) (by kernel_rfl) (by kernel_rfl) (door_met os _)) ?_
  intro W base args ds gs before hval0 hW _ _ hL _
  have hval : ∀ (j : Nat) t v, Tryz.f4.params[j]? = some t → args[j]? = some v → Value.okWide Tryz.prog W .any base t v := hval0
  have hW' := hW
  obtain ⟨p, q, hA0, hV, rfl, hfz, hnd⟩ := hW
  have hA : DataW.TrodAll enc Tryz.prog W 0 (fun _ => true) true Tryz.f4.params.toList args.toList ds p := hA0
  rw [Tryz.params4] at hA hval
  obtain ⟨v0, vs0, d0, ds0, p0, q0, hargs, rfl, rfl, h0, r0⟩ := trodAll_cons hA
  obtain ⟨v1, vs1, d1, ds1, p1, q1, rfl, rfl, rfl, h1, r1⟩ := trodAll_cons r0
  obtain ⟨rfl, rfl, rfl⟩ := trodAll_nil r1
  obtain rfl : args = #[v0, v1] := by cases args; simp_all
  obtain ⟨rfl, rfl⟩ := trodVars_none hV
  obtain ⟨a0, rfl, rfl, rfl, w0⟩ := open_int Tryz.underlying2 (hval 0 2 v0 rfl rfl) h0
  obtain ⟨a1, rfl, rfl, rfl, w1⟩ := open_int Tryz.underlying2 (hval 1 2 v1 rfl rfl) h1
  refine (walk a0 a1 W (ka_of_laid hL)).mono fun e W' ⟨he, hb⟩ => ?_
  subst he
  exact ⟨_, rfl, post_of_below laidOut (fun t ht => by
    rw [Tryz.params4] at ht
    have hm : t ∈ [2, 2] := by simpa using ht
    have hall : ([2, 2].all fun u => Tryz.prog.readableRec u && decide (u < Tryz.prog.types.size)) = true := by kernel_rfl
    have := List.all_eq_true.1 hall t hm
    simp only [Bool.and_eq_true, decide_eq_true_eq] at this
    exact this) rfl rfl Tryz.underlying4 hW' rfl rfl rfl hb⟩
theorem over : Rows.semWrapsRow.holds Tryz.pinned (OpenSpec.ofChange Rows.semWrapsSpec) :=
  OpenClaim.holds_of_wide 4 Tryz.f4 rfl rfl rfl rfl rfl rfl rfl ⟨rfl, rfl, rfl, rfl, rfl⟩ rfl rfl rfl rfl rfl (by kernel_rfl) Tryz.func4 (by kernel_rfl)
    (of_decide_eq_true (by kernel_rfl)) (by unfold Func.isWrapper; first | (rw [if_pos (by decide +kernel)]; kernel_rfl) | (rw [if_neg (by decide +kernel)]; exact ⟨rfl, rfl⟩))
    (fun os started H enc _ => lifted os started H enc)
theorem card : Rows.SemWrapsCardSaid :=
  Claim7.holds_tied_plain_at .later [] [.handle, .listed, .data] true (true, "3cbfc09336b0fd3187cd70d01a7451d87973736717eddd58387b349b75e50026") true
    over (fun _ h => by cases h) (by kernel_rfl) (fun _ h => by cases h) semWraps_row_tie rfl ⟨rfl, rfl⟩ (by kernel_rfl) rfl
    (fun f fn hf hfn => by
      obtain rfl : f = 4 := Option.some.inj ((show Tryz.prog.funcNamed "emissary/emissarylaw19.SemWraps" = some 4 by kernel_rfl).symm.trans hf) |>.symm
      obtain rfl : fn = Tryz.f4 := (Option.some.inj (Tryz.func4.symm.trans hfn)).symm
      exact ⟨by kernel_rfl, fun j t ht => by
        rw [Tryz.params4] at ht
        have hm : t ∈ [2, 2] := by simpa using Array.mem_of_getElem? ht
        have hall : ([2, 2].all fun u => !Tryz.prog.wantsStandIn u) = true := by kernel_rfl
        exact (show Tryz.prog.wantsStandIn t = false by simpa using List.all_eq_true.1 hall t hm)⟩)
    (by kernel_rfl)
end Go.Proofs.YtncccgglillmoaaGreatDoor.SemWraps
namespace Go.Proofs.YtncccgglillmoaaGreatDoor
theorem semWrapsProved : Rows.SemWrapsCardSaid := SemWraps.card
#print axioms semWrapsProved
end Go.Proofs.YtncccgglillmoaaGreatDoor
