/- The law LexEnds answers true for every two numbers, and they read behind the call as they read before. -/
import Derived.Test.YtiifjjcoepgobaaDoorLEnds2
set_option autoImplicit false
set_option maxRecDepth 100000
set_option linter.unusedVariables false
namespace Go.Proofs.YtiifjjcoepgobaaDoor.LexEnds
open Go.Ev Go.ChangeShapes Go.WideShapes Go.ChangeAt Go.RowKit Go.Proofs.YtiifjjcoepgobaaDoor.Env

theorem tn (m : Nat) (y : Int) : go (.negSucc m) y = true := by kernel_rfl
theorem tz (y : Int) : go (.ofNat 0) y = true := by kernel_rfl
theorem tp (m : Nat) (y : Int) : go (.ofNat (m + 61)) y = true := by kernel_rfl
theorem wn (k : Nat) : (List.range 60).all (fun i => go (.ofNat (i + 1)) (.negSucc k)) = true := by kernel_rfl
theorem wp (k : Nat) : (List.range 60).all (fun i => go (.ofNat (i + 1)) (.ofNat (k + 3))) = true := by kernel_rfl
theorem mid (m : Nat) (h : m < 60) (y : Int) : go (.ofNat (m + 1)) y = true := by
  cases y with
  | negSucc k => exact List.all_eq_true.1 (wn k) m (List.mem_range.2 h)
  | ofNat k =>
    rcases k with _ | _ | _ | k
    · exact w0 m h
    · exact w1 m h
    · exact w2 m h
    · exact List.all_eq_true.1 (wp k) m (List.mem_range.2 h)
theorem all (n y : Int) : go n y = true := by
  cases n with
  | negSucc m => exact tn m y
  | ofNat m =>
    cases m with
    | zero => exact tz y
    | succ m =>
      by_cases h : m < 60
      · exact mid m h y
      · have := tp (m - 60) y
        rwa [show m - 60 + 61 = m + 1 by omega] at this

theorem walk (n y : Int) (w : World) (hk : ∀ p ∈ (default : KA0).ka, p.2 w.heap[p.1]? ∧ p.1 < w.heap.size) : Calls Tryd.prog 5 #[.int .i64 n, .int .i64 y] w fun e w' => e = .returned (.bool true) ∧ Below w.heap.size w w' := by
  obtain ⟨h', hh⟩ := resIs_some (all n y)
  refine ((fn_sim env2_ok 400 5 _ _ _ _ hh).2 (G0 w) w #[.int .i64 n, .int .i64 y] (inv0 w hk) (.cons (.int .i64 n) (.cons (.int .i64 y) (.nil _ _)))).mono fun e w' hp => ?_
  obtain ⟨G', V, he, hV, hI, hE⟩ := hp
  cases hV
  exact ⟨he, hE.below⟩

theorem lifted (os : Os) (started : os.Started) (H : Type) (enc : TypeId × Value → H) :
    ReturnsInHanded {} Tryd.checked os 5 .any (fun w args => (Rows.lexEndsSpec.pre enc Tryd.prog Tryd.f5 [] false w args ∧ laidMetH Tryd.prog laidL w) ∧ sizedMet enc Tryd.prog Tryd.f5 (OpenSpec.ofChange Rows.lexEndsSpec) false w args) (Rows.lexEndsSpec.post enc Tryd.prog Tryd.f5 false true false false) := by
  refine returnsInHanded_of_change_and (C := Tryd.checked) (X := fun w _ => laidMetH Tryd.prog laidL w) (fun _ _ _ hh h => h.of_heap hh) own started (by kernel_rfl) Tryd.func5
    (ChangeSpec.witness_shaped (enc := enc) (C := Tryd.checked) (os := os) (X := fun w _ => laidMetH Tryd.prog laidL w) false (World.doorLaid Tryd.prog 4000 os) #[.int .i64 0, .int .i64 0] 8 (by kernel_rfl) (shaped os _) (by kernel_rfl) (by kernel_rfl) (by kernel_rfl) (door_met os _)) ?_
  intro W base args ds gs before hval0 hW _ _ hL _
  have hval : ∀ (j : Nat) t v, Tryd.f5.params[j]? = some t → args[j]? = some v → Value.okWide Tryd.prog W .any base t v := hval0
  have hW' := hW
  obtain ⟨p, q, hA0, hV, rfl, hfz, hnd⟩ := hW
  have hA : DataW.TrodAll enc Tryd.prog W 0 (fun _ => true) true Tryd.f5.params.toList args.toList ds p := hA0
  rw [Tryd.params5] at hA hval
  obtain ⟨v0, vs0, d0, ds0, p0, q0, hargs, rfl, rfl, h0, r0⟩ := trodAll_cons hA
  obtain ⟨v1, vs1, d1, ds1, p1, q1, rfl, rfl, rfl, h1, r1⟩ := trodAll_cons r0
  obtain ⟨rfl, rfl, rfl⟩ := trodAll_nil r1
  obtain rfl : args = #[v0, v1] := by cases args; simp_all
  obtain ⟨rfl, rfl⟩ := trodVars_none hV
  obtain ⟨a0, rfl, rfl, rfl, w0⟩ := open_int Tryd.underlying3 (hval 0 3 v0 rfl rfl) h0
  obtain ⟨a1, rfl, rfl, rfl, w1⟩ := open_int Tryd.underlying3 (hval 1 3 v1 rfl rfl) h1
  refine (walk a0 a1 W (ka_of_laid hL)).mono fun e W' ⟨he, hb⟩ => ?_
  subst he
  exact ⟨_, rfl, post_of_below laidOut (fun t ht => by
    rw [Tryd.params5] at ht
    have hm : t ∈ [3, 3] := by simpa using ht
    have hall : ([3, 3].all fun u => Tryd.prog.readableRec u && decide (u < Tryd.prog.types.size)) = true := by kernel_rfl
    have := List.all_eq_true.1 hall t hm
    simp only [Bool.and_eq_true, decide_eq_true_eq] at this
    exact this) rfl rfl Tryd.underlying4 hW' rfl rfl rfl hb⟩
theorem over : Rows.lexEndsRow.holds Tryd.pinned (OpenSpec.ofChange Rows.lexEndsSpec) :=
  OpenClaim.holds_of_wide 5 Tryd.f5 rfl rfl rfl rfl rfl rfl rfl ⟨rfl, rfl, rfl, rfl, rfl⟩ rfl rfl rfl rfl rfl (by kernel_rfl) Tryd.func5 (by kernel_rfl)
    (of_decide_eq_true (by kernel_rfl)) (by unfold Func.isWrapper; first | (rw [if_pos (by decide +kernel)]; kernel_rfl) | (rw [if_neg (by decide +kernel)]; exact ⟨rfl, rfl⟩))
    (fun os started H enc _ => lifted os started H enc)
theorem card : Rows.LexEndsCardSaid :=
  Claim7.holds_tied_plain_at .later [] [.listed, .data] true (true, "28de97c18b731cf7259cb0a21d4ac632a54477f2df2f13c7fdbad179da01dd96") false
    over (fun _ h => by cases h) (by kernel_rfl) (fun _ h => by cases h) lexEnds_row_tie rfl ⟨rfl, rfl⟩ (by kernel_rfl) rfl
    (fun f fn hf hfn => by
      obtain rfl : f = 5 := Option.some.inj ((show Tryd.prog.funcNamed "emissary/emissarylaw4.LexEnds" = some 5 by kernel_rfl).symm.trans hf) |>.symm
      obtain rfl : fn = Tryd.f5 := (Option.some.inj (Tryd.func5.symm.trans hfn)).symm
      exact ⟨by kernel_rfl, fun j t ht => by
        rw [Tryd.params5] at ht
        have hm : t ∈ [3, 3] := by simpa using Array.mem_of_getElem? ht
        have hall : ([3, 3].all fun u => !Tryd.prog.wantsStandIn u) = true := by kernel_rfl
        exact (show Tryd.prog.wantsStandIn t = false by simpa using List.all_eq_true.1 hall t hm)⟩)
    (by kernel_rfl)
end Go.Proofs.YtiifjjcoepgobaaDoor.LexEnds
namespace Go.Proofs.YtiifjjcoepgobaaDoor
theorem lexEndsProved : Rows.LexEndsCardSaid := LexEnds.card
#print axioms lexEndsProved
end Go.Proofs.YtiifjjcoepgobaaDoor
