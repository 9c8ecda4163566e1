/- The law InferKnown answers true for every number, and the number reads behind the call as it read before. -/
import Derived.Test.YtncccgglillmoaaGreatDoorZNe
import Derived.Test.YtncccgglillmoaaGreatDoorZRow
set_option autoImplicit false
set_option maxRecDepth 100000
set_option linter.unusedVariables false
namespace Go.Proofs.YtncccgglillmoaaGreatDoor.InferKnown
open Go.Ev Go.ChangeShapes Go.WideShapes Go.ChangeAt Go.RowKit Go.Proofs.YtncccgglillmoaaGreatDoor.Env

theorem t0 : resIs true (evFn envZN 300 5 [.int .i64 (.ofNat 0)] ⟨.e, 0⟩) = true := by kernel_rfl
theorem t1 : resIs true (evFn envZN 300 5 [.int .i64 (.ofNat 1)] ⟨.e, 0⟩) = true := by kernel_rfl
theorem t2 : resIs true (evFn envZN 300 5 [.int .i64 (.ofNat 2)] ⟨.e, 0⟩) = true := by kernel_rfl
theorem t3 : resIs true (evFn envZN 300 5 [.int .i64 (.ofNat 3)] ⟨.e, 0⟩) = true := by kernel_rfl
theorem t4 : resIs true (evFn envZN 300 5 [.int .i64 (.ofNat 4)] ⟨.e, 0⟩) = true := by kernel_rfl
theorem t5 : resIs true (evFn envZN 300 5 [.int .i64 (.ofNat 5)] ⟨.e, 0⟩) = true := by kernel_rfl
theorem t6 : resIs true (evFn envZN 300 5 [.int .i64 (.ofNat 6)] ⟨.e, 0⟩) = true := by kernel_rfl
theorem t7 : resIs true (evFn envZN 300 5 [.int .i64 (.ofNat 7)] ⟨.e, 0⟩) = true := by kernel_rfl
theorem t8 : resIs true (evFn envZN 300 5 [.int .i64 (.ofNat 8)] ⟨.e, 0⟩) = true := by kernel_rfl
theorem t9 : resIs true (evFn envZN 300 5 [.int .i64 (.ofNat 9)] ⟨.e, 0⟩) = true := by kernel_rfl
theorem t10 : resIs true (evFn envZN 300 5 [.int .i64 (.ofNat 10)] ⟨.e, 0⟩) = true := by kernel_rfl
theorem t11 : resIs true (evFn envZN 300 5 [.int .i64 (.ofNat 11)] ⟨.e, 0⟩) = true := by kernel_rfl
theorem t12 : resIs true (evFn envZN 300 5 [.int .i64 (.ofNat 12)] ⟨.e, 0⟩) = true := by kernel_rfl
theorem t13 : resIs true (evFn envZN 300 5 [.int .i64 (.ofNat 13)] ⟨.e, 0⟩) = true := by kernel_rfl
theorem tl : ∀ i, i < 14 → resIs true (evFn envZN 300 5 [.int .i64 (.ofNat i)] ⟨.e, 0⟩) = true
  | 0, _ => t0
  | 1, _ => t1
  | 2, _ => t2
  | 3, _ => t3
  | 4, _ => t4
  | 5, _ => t5
  | 6, _ => t6
  | 7, _ => t7
  | 8, _ => t8
  | 9, _ => t9
  | 10, _ => t10
  | 11, _ => t11
  | 12, _ => t12
  | 13, _ => t13
  | m + 14, h => absurd h (by omega)
theorem tn (m : Nat) : resIs true (evFn envZN 300 5 [.int .i64 (.negSucc m)] ⟨.e, 0⟩) = true := by kernel_rfl
theorem tp (m : Nat) : resIs true (evFn envZN 300 5 [.int .i64 (.ofNat (m + 14))] ⟨.e, 0⟩) = true := by kernel_rfl
theorem all (n : Int) : resIs true (evFn envZN 300 5 [.int .i64 n] ⟨.e, 0⟩) = true := by
  cases n with
  | negSucc m => exact tn m
  | ofNat m =>
    by_cases h : m < 14
    · exact tl m h
    · have := tp (m - 14)
      rwa [show m - 14 + 14 = m by omega] at this

theorem walk (n : Int) (w : World) (hk : ∀ p ∈ (default : KA0).ka, p.2 w.heap[p.1]? ∧ p.1 < w.heap.size) : Calls Tryz.prog 5 #[.int .i64 n] w fun e w' => e = .returned (.bool true) ∧ Below w.heap.size w w' := by
  obtain ⟨h', hh⟩ := resIs_some (all n)
  refine ((fn_sim envZN_ok 300 5 _ _ _ _ hh).2 (G0 w) w #[.int .i64 n] (inv0 w hk) (.cons (.int .i64 n) (.nil _ _))).mono fun e w' hp => ?_
  obtain ⟨G', V, he, hV, hI, hE⟩ := hp
  cases hV
  exact ⟨he, hE.below⟩

theorem lifted (os : Os) (started : os.Started) (H : Type) (enc : TypeId × Value → H) :
    ReturnsInHanded {} Tryz.checked os 5 .any (fun w args => (Rows.inferKnownSpec.pre enc Tryz.prog Tryz.f5 [] false w args ∧ laidMetH Tryz.prog laidL w) ∧ sizedMet enc Tryz.prog Tryz.f5 (OpenSpec.ofChange Rows.inferKnownSpec) false w args) (Rows.inferKnownSpec.post enc Tryz.prog Tryz.f5 false true false false) := by
  refine returnsInHanded_of_change_and (C := Tryz.checked) (X := fun w _ => laidMetH Tryz.prog laidL w) (fun _ _ _ hh h => h.of_heap hh) own started (by kernel_rfl) Tryz.func5
    (ChangeSpec.witness_shaped (enc := enc) (C := Tryz.checked) (os := os) (X := fun w _ => laidMetH Tryz.prog laidL w) false (World.doorLaid Tryz.prog 4000 os) #[.int .i64 0] 8 (by kernel_rfl) (shaped os _) (by kernel_rfl) (by kernel_rfl) (by kernel_rfl) (door_met os _)) ?_
  intro W base args ds gs before hval0 hW _ _ hL _
  have hval : ∀ (j : Nat) t v, Tryz.f5.params[j]? = some t → args[j]? = some v → Value.okWide Tryz.prog W .any base t v := hval0
  have hW' := hW
  obtain ⟨p, q, hA0, hV, rfl, hfz, hnd⟩ := hW
  have hA : DataW.TrodAll enc Tryz.prog W 0 (fun _ => true) true Tryz.f5.params.toList args.toList ds p := hA0
  rw [Tryz.params5] at hA hval
  obtain ⟨v0, vs0, d0, ds0, p0, q0, hargs, rfl, rfl, h0, r0⟩ := trodAll_cons hA
  obtain ⟨rfl, rfl, rfl⟩ := trodAll_nil r0
  obtain rfl : args = #[v0] := by cases args; simp_all
  obtain ⟨rfl, rfl⟩ := trodVars_none hV
  obtain ⟨a0, rfl, rfl, rfl, w0⟩ := open_int Tryz.underlying3 (hval 0 3 v0 rfl rfl) h0
  refine (walk a0 W (ka_of_laid hL)).mono fun e W' ⟨he, hb⟩ => ?_
  subst he
  exact ⟨_, rfl, post_of_below laidOut (fun t ht => by
    rw [Tryz.params5] at ht
    have hm : t ∈ [3] := by simpa using ht
    have hall : ([3].all fun u => Tryz.prog.readableRec u && decide (u < Tryz.prog.types.size)) = true := by kernel_rfl
    have := List.all_eq_true.1 hall t hm
    simp only [Bool.and_eq_true, decide_eq_true_eq] at this
    exact this) rfl rfl Tryz.underlying4 hW' rfl rfl rfl hb⟩
theorem over : Rows.inferKnownRow.holds Tryz.pinned (OpenSpec.ofChange Rows.inferKnownSpec) :=
  OpenClaim.holds_of_wide 5 Tryz.f5 rfl rfl rfl rfl rfl rfl rfl ⟨rfl, rfl, rfl, rfl, rfl⟩ rfl rfl rfl rfl rfl (by kernel_rfl) Tryz.func5 (by kernel_rfl)
    (of_decide_eq_true (by kernel_rfl)) (by unfold Func.isWrapper; first | (rw [if_pos (by decide +kernel)]; kernel_rfl) | (rw [if_neg (by decide +kernel)]; exact ⟨rfl, rfl⟩))
    (fun os started H enc _ => lifted os started H enc)
theorem card : Rows.InferKnownCardSaid :=
  Claim7.holds_tied_plain_at .later [] [.handle, .listed, .data] true (true, "3cbfc09336b0fd3187cd70d01a7451d87973736717eddd58387b349b75e50026") true
    over (fun _ h => by cases h) (by kernel_rfl) (fun _ h => by cases h) inferKnown_row_tie rfl ⟨rfl, rfl⟩ (by kernel_rfl) rfl
    (fun f fn hf hfn => by
      obtain rfl : f = 5 := Option.some.inj ((show Tryz.prog.funcNamed "emissary/emissarylaw11.InferKnown" = some 5 by kernel_rfl).symm.trans hf) |>.symm
      obtain rfl : fn = Tryz.f5 := (Option.some.inj (Tryz.func5.symm.trans hfn)).symm
      exact ⟨by kernel_rfl, fun j t ht => by
        rw [Tryz.params5] at ht
        have hm : t ∈ [3] := by simpa using Array.mem_of_getElem? ht
        have hall : ([3].all fun u => !Tryz.prog.wantsStandIn u) = true := by kernel_rfl
        exact (show Tryz.prog.wantsStandIn t = false by simpa using List.all_eq_true.1 hall t hm)⟩)
    (by kernel_rfl)
end Go.Proofs.YtncccgglillmoaaGreatDoor.InferKnown
namespace Go.Proofs.YtncccgglillmoaaGreatDoor
theorem inferKnownProved : Rows.InferKnownCardSaid := InferKnown.card
#print axioms inferKnownProved
end Go.Proofs.YtncccgglillmoaaGreatDoor
