/- The law CompClosed answers true for all it may be handed, and what was handed in reads behind the call as it read before. -/
import Derived.Test.YtogjplcnmibnlaaGreatDoorCZr
import Derived.Test.YtogjplcnmibnlaaGreatDoorCRowN
set_option autoImplicit false
set_option maxRecDepth 100000
set_option linter.unusedVariables false
namespace Go.Proofs.YtogjplcnmibnlaaGreatDoor.CompClosed
open Go.Ev Go.Ev.Nd Go.ChangeShapes Go.WideShapes Go.ChangeAt Go.RowKit Go.Proofs.YtogjplcnmibnlaaGreatDoor.Env

theorem walk (w : World) (t : Nd) (hf : fit t) (v : Value) (hv : VR (G0 w) w v t.av) (n : Int) (hn : (Lit.int .i64 n).wf = true) (hk : ∀ p ∈ (default : KA0).ka, p.2 w.heap[p.1]? ∧ p.1 < w.heap.size) : Calls Tryz.prog 5 #[v, .int .i64 n] w fun e w' => e = .returned (.bool true) ∧ Below w.heap.size w w' := by
  obtain ⟨h', hh⟩ := law5 t hf n
  obtain ⟨k, hk'⟩ := lim_ex hh
  refine ((fn_sim eC_ok k 5 _ _ _ _ hk').2 (G0 w) w #[v, .int .i64 n] (inv0 w hk) (.cons hv (.cons (.int .i64 n) (.nil _ _)))).mono fun e w' hp => ?_
  obtain ⟨G', V, he, hV, hI, hE⟩ := hp
  cases hV
  exact ⟨he, hE.below⟩

theorem lifted (os : Os) (started : os.Started) (H : Type) (enc : TypeId × Value → H) :
    ReturnsInHanded {} Tryz.checked os 5 .any (fun w args => (Rows.compClosedSpec.pre enc Tryz.prog Tryz.f5 [] false w args ∧ laidMetH Tryz.prog laidL w) ∧ sizedMet enc Tryz.prog Tryz.f5 (OpenSpec.ofChange Rows.compClosedSpec) false w args) (Rows.compClosedSpec.post enc Tryz.prog Tryz.f5 false true false false) := by
  refine returnsInHanded_of_change_and (C := Tryz.checked) (X := fun w _ => laidMetH Tryz.prog laidL w) (fun _ _ _ hh h => h.of_heap hh) own started (by kernel_rfl) Tryz.func5
    (ChangeSpec.witness_shaped (enc := enc) (C := Tryz.checked) (os := os) (X := fun w _ => laidMetH Tryz.prog laidL w) false (World.doorLaid Tryz.prog 4000 os) #[.agg #[.string ⟨#[]⟩, .string ⟨#[]⟩, .string ⟨#[]⟩, .int .i64 0, .int .i64 0, .slice none 0 0], .int .i64 0] 8 (by kernel_rfl) (shaped os _) (by kernel_rfl) (by kernel_rfl) (by kernel_rfl) (door_met os _)) ?_
  intro W base args ds gs before hval0 hW _ hwt hL _
  have hval : ∀ (j : Nat) t v, Tryz.f5.params[j]? = some t → args[j]? = some v → Value.okWide Tryz.prog W .any base t v := hval0
  have hW' := hW
  have hwt' : ∀ n ∈ DataW.weightsEach Tryz.prog (Tryz.f5.params.toList ++ Rows.compClosedSpec.plain.varTypes Tryz.prog) (ds ++ gs), n ≤ NB := fun n hn => of_decide_eq_true (List.all_eq_true.1 hwt n hn)
  rw [Tryz.params5] at hwt'
  obtain ⟨p, q, hA0, hV, rfl, hfz, hnd⟩ := hW
  have hA : DataW.TrodAll enc Tryz.prog W 0 (fun _ => true) true Tryz.f5.params.toList args.toList ds p := hA0
  rw [Tryz.params5] at hA hval
  obtain ⟨v0, vs0, d0, ds0, p0, q0, hargs, rfl, rfl, h0, r0⟩ := trodAll_cons hA
  obtain ⟨v1, vs1, d1, ds1, p1, q1, rfl, rfl, rfl, h1, r1⟩ := trodAll_cons r0
  obtain ⟨rfl, rfl, rfl⟩ := trodAll_nil r1
  obtain rfl : args = #[v0, v1] := by cases args; simp_all
  obtain ⟨rfl, rfl⟩ := trodVars_none hV
  obtain ⟨a1, rfl, rfl, rfl, w1⟩ := open_int Tryz.underlying3 (hval 1 3 v1 rfl rfl) h1
  obtain ⟨t0, hf0, hv0⟩ := open_nd (hval 0 24 v0 rfl rfl) h0 (fun n hn => hwt' n (weightsEach_get (i := 0) rfl rfl hn))
  refine (walk W t0 hf0 v0 hv0 a1 w1 (ka_of_laid hL)).mono fun e W' ⟨he, hb⟩ => ?_
  subst he
  exact ⟨_, rfl, post_of_below laidOut (fun t ht => by
    rw [Tryz.params5] at ht
    have hm : t ∈ [24, 3] := by simpa using ht
    have hall : ([24, 3].all fun u => Tryz.prog.readableRec u && decide (u < Tryz.prog.types.size)) = true := by kernel_rfl
    have := List.all_eq_true.1 hall t hm
    simp only [Bool.and_eq_true, decide_eq_true_eq] at this
    exact this) rfl rfl Tryz.underlying4 hW' rfl rfl rfl hb⟩
theorem over : Rows.compClosedRow.holds Tryz.pinned (OpenSpec.ofChange Rows.compClosedSpec) :=
  OpenClaim.holds_of_wide 5 Tryz.f5 rfl rfl rfl rfl rfl rfl rfl ⟨rfl, rfl, rfl, rfl, rfl⟩ rfl rfl rfl rfl rfl (by kernel_rfl) Tryz.func5 (by kernel_rfl)
    (of_decide_eq_true (by kernel_rfl)) (by unfold Func.isWrapper; first | (rw [if_pos (by decide +kernel)]; kernel_rfl) | (rw [if_neg (by decide +kernel)]; exact ⟨rfl, rfl⟩))
    (fun os started H enc _ => lifted os started H enc)
theorem card : Rows.CompClosedCardSaid :=
  Claim7.holds_tied_plain_at .later [] [.listed, .data] true (true, "9f5fa295e72a45b4c9ef79062a1eaa6038550b8e74c8555c322bf3dbf528840c") false
    over (fun _ h => by cases h) (by kernel_rfl) (fun _ h => by cases h) compClosed_row_tie rfl ⟨rfl, rfl⟩ (by kernel_rfl) rfl
    (fun f fn hf hfn => by
      obtain rfl : f = 5 := Option.some.inj ((show Tryz.prog.funcNamed "emissary/emissarylaw14.CompClosed" = some 5 by kernel_rfl).symm.trans hf) |>.symm
      obtain rfl : fn = Tryz.f5 := (Option.some.inj (Tryz.func5.symm.trans hfn)).symm
      exact ⟨by kernel_rfl, fun j t ht => by
        rw [Tryz.params5] at ht
        have hm : t ∈ [24, 3] := by simpa using Array.mem_of_getElem? ht
        have hall : ([24, 3].all fun u => !Tryz.prog.wantsStandIn u) = true := by kernel_rfl
        exact (show Tryz.prog.wantsStandIn t = false by simpa using List.all_eq_true.1 hall t hm)⟩)
    (by kernel_rfl)
end Go.Proofs.YtogjplcnmibnlaaGreatDoor.CompClosed
namespace Go.Proofs.YtogjplcnmibnlaaGreatDoor
theorem compClosedProved : Rows.CompClosedCardSaid := CompClosed.card
#print axioms compClosedProved
end Go.Proofs.YtogjplcnmibnlaaGreatDoor
