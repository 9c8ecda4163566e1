/- The law UnifyMakes answers true for every row of pairs and every type, and both read behind the call as they read before. -/
import Derived.Test.YtiifjjcoepgobaaY4
import Derived.Test.YtiifjjcoepgobaaYRow
set_option autoImplicit false
set_option maxRecDepth 100000
set_option linter.unusedVariables false
namespace Go.Proofs.Ytiifjjcoepgobaa.UnifyMakes
open Go.Ev Go.ChangeShapes Go.WideShapes Go.ChangeAt Go.RowKit Go.Proofs.Ytiifjjcoepgobaa.Env

theorem prS : closedB Try.prog [22, 37, 25, 23, 9, 3] = true := by kernel_rfl
theorem shp_pair {cs : List AV} (h : Shp Try.prog 37 cs) : ∃ p : Ty × Ty, cs = p.1.av.cells ++ p.2.av.cells ∧ fit p.1 ∧ fit p.2 := by
  have hav : ∀ T : Ty, [AV.str T.op, .int .i64 T.n, .sl .no (Ty.avs T.kids)] = T.av.cells := fun T => by cases T; rfl
  cases h with
  | str _ _ h => rw [Try.underlying37] at h; cases h
  | int _ _ _ h => rw [Try.underlying37] at h; cases h
  | bool _ _ h => rw [Try.underlying37] at h; cases h
  | sl _ _ _ h => rw [Try.underlying37] at h; cases h
  | st _ fs ps h hf hp =>
    rw [Try.underlying37] at h
    cases h
    match ps, hf with
    | [(t0, a0), (t1, a1)], hf =>
      simp at hf
      obtain ⟨rfl, rfl⟩ := hf
      obtain ⟨A, e, fA⟩ := (shp_ty (hp _ (List.mem_cons_self ..))).1 rfl
      obtain ⟨B, e', fB⟩ := (shp_ty (hp _ (List.mem_cons_of_mem _ (List.mem_cons_self ..)))).1 rfl
      simp only at e e'
      rw [hav] at e e'
      refine ⟨(A, B), ?_, fA, fB⟩
      simp [e, e']
    | [], hf => simp at hf
    | [_], hf => simp at hf
    | _ :: _ :: _ :: _, hf => simp at hf
theorem shp_pairs {cs : List AV} (h : Shp Try.prog 22 cs) : ∃ ps : List (Ty × Ty), cs = [.sl .no (prs ps)] ∧ ps.length ≤ 9223372036854775807 ∧ ∀ p ∈ ps, fit p.1 ∧ fit p.2 := by
  cases h with
  | str _ _ h => rw [Try.underlying22] at h; cases h
  | int _ _ _ h => rw [Try.underlying22] at h; cases h
  | bool _ _ h => rw [Try.underlying22] at h; cases h
  | st _ _ _ h => rw [Try.underlying22] at h; cases h
  | sl _ e els h hl hx ha =>
    rw [Try.underlying22] at h
    cases h
    rw [Try.underlying37] at ha
    have : ∀ l : List AV, (∀ x ∈ l, ∃ p : Ty × Ty, x = prAV p ∧ fit p.1 ∧ fit p.2) → ∃ ps : List (Ty × Ty), l = prs ps ∧ ∀ p ∈ ps, fit p.1 ∧ fit p.2 := by
      intro l
      induction l with
      | nil => intro _; exact ⟨[], rfl, fun p hp => by simp at hp⟩
      | cons x l ih =>
        intro h
        obtain ⟨p, rfl, hp⟩ := h x (List.mem_cons_self ..)
        obtain ⟨ps, rfl, hk⟩ := ih fun x hx => h x (List.mem_cons_of_mem _ hx)
        refine ⟨p :: ps, rfl, fun q hq => ?_⟩
        rcases List.mem_cons.1 hq with rfl | hq
        · exact hp
        · exact hk q hq
    obtain ⟨ps, rfl, hk⟩ := this els fun x hx' => by
      obtain ⟨cs, rfl⟩ := ha x hx'
      obtain ⟨p, hp, hf⟩ := shp_pair (hx _ hx')
      exact ⟨p, congrArg AV.agg hp, hf⟩
    refine ⟨ps, rfl, ?_, hk⟩
    rw [prs_len] at hl
    exact hl
theorem open_pairs {H' : Type} {enc : TypeId × Value → H'} {W : World} {sp : Nat → Bool} {held : Bool} {base : Nat} {v : Value} {d : DataW H'} {pl : List MemPlace} (hok : Value.okWide Try.prog W .any base 22 v) (h : DataW.Trod enc Try.prog W 0 sp held 22 v d pl) :
    ∃ ps : List (Ty × Ty), ps.length ≤ 9223372036854775807 ∧ (∀ p ∈ ps, fit p.1 ∧ fit p.2) ∧ VR (G0 W) W v (.sl .no (prs ps)) := by
  obtain ⟨cs, h1, h2⟩ := trodAll_open prS (by simp) h
  obtain ⟨ps, rfl, hl, hf⟩ := shp_pairs h2
  refine ⟨ps, hl, hf, ?_⟩
  have hone : v.cells = #[v] := by
    cases v with
    | agg c =>
      unfold Value.okWide at hok
      rw [Try.underlying22] at hok
      simp only at hok
      unfold Cell.okWide at hok
      rw [Try.underlying22] at hok
      simp only at hok
      unfold Cell.ok at hok
      rw [Try.underlying22] at hok
      simp at hok
    | _ => rfl
  rw [hone] at h1
  exact h1.2 0 v _ rfl rfl
theorem walk (ps : List (Ty × Ty)) (hl : ps.length ≤ 9223372036854775807) (hfp : ∀ p ∈ ps, fit p.1 ∧ fit p.2) (v0 : Value) {W : World} (hv0 : VR (G0 W) W v0 (.sl .no (prs ps))) (t : Ty) (hf : fit t) (v1 : Value) (hv1 : VR (G0 W) W v1 t.av) (w : World) (hw : w = W := by rfl) : Calls Try.prog 3 #[v0, v1] W fun e w' => e = .returned (.bool true) ∧ Below W.heap.size W w' := by
  obtain ⟨h', hh⟩ := law3 ps t hf hl hfp
  obtain ⟨k, hk'⟩ := lim_ex hh
  refine ((fn_sim envU_ok k 3 _ _ _ _ hk').2 (G0 W) W #[v0, v1] (inv0 W (ka_none W)) (.cons hv0 (.cons hv1 (.nil _ _)))).mono fun e w' hp => ?_
  obtain ⟨G', V, he, hV, hI, hE⟩ := hp
  cases hV
  exact ⟨he, hE.below⟩

theorem lifted (os : Os) (started : os.Started) (H : Type) (enc : TypeId × Value → H) :
    ReturnsInHanded {} Try.checked os 3 .any (Rows.unifyMakesSpec.pre6 enc Try.prog Try.f3 Rows.unifyMakesRow.domain false) (Rows.unifyMakesSpec.post enc Try.prog Try.f3 false true false false) := by
  refine returnsInHanded_of_change (C := Try.checked) own started (by kernel_rfl) Try.func3
    (ChangeSpec.witness6 (enc := enc) (C := Try.checked) false ⟨#[], #[.slice none 0 0, .agg #[.string ⟨#[]⟩, .int .i64 0, .slice none 0 0]], []⟩ 8 (by kernel_rfl) (by kernel_rfl) (by kernel_rfl) (by kernel_rfl)) ?_
  intro W base args ds gs before hval0 hW hcnd _
  have hval : ∀ (j : Nat) t v, Try.f3.params[j]? = some t → args[j]? = some v → Value.okWide Try.prog W .any base t v := hval0
  have hW' := hW
  obtain ⟨p, q, hA0, hV, rfl, hfz, hnd⟩ := hW
  have hA : DataW.TrodAll enc Try.prog W 0 (fun _ => true) true Try.f3.params.toList args.toList ds p := hA0
  rw [Try.params3] at hA hval
  obtain ⟨v0, vs0, d0, ds0, p0, q0, hargs, rfl, rfl, h0, r0⟩ := trodAll_cons hA
  obtain ⟨v1, vs1, d1, ds1, p1, q1, rfl, rfl, rfl, h1, r1⟩ := trodAll_cons r0
  obtain ⟨rfl, rfl, rfl⟩ := trodAll_nil r1
  obtain rfl : args = #[v0, v1] := by cases args; simp_all
  obtain ⟨rfl, rfl⟩ := trodVars_none hV
  obtain ⟨t0, hl0, hf0, hv0⟩ := open_pairs (hval 0 22 v0 rfl rfl) h0
  obtain ⟨t1, hf1, hv1⟩ := open_ty (hval 1 25 v1 rfl rfl) h1
  refine (walk t0 hl0 hf0 v0 hv0 t1 hf1 v1 hv1 W).mono fun e W' ⟨he, hb⟩ => ?_
  subst he
  exact ⟨_, rfl, post_of_below laidOut (fun t ht => by
    rw [Try.params3] at ht
    have hm : t ∈ [22, 25] := by simpa using ht
    have hall : ([22, 25].all fun u => Try.prog.readableRec u && decide (u < Try.prog.types.size)) = true := by kernel_rfl
    have := List.all_eq_true.1 hall t hm
    simp only [Bool.and_eq_true, decide_eq_true_eq] at this
    exact this) rfl rfl Try.underlying4 hW' rfl rfl rfl hb⟩
theorem over : Rows.unifyMakesRow.holds Try.pinned (OpenSpec.ofChange Rows.unifyMakesSpec) :=
  OpenClaim.holds_of_wide 3 Try.f3 rfl rfl rfl rfl rfl rfl rfl ⟨rfl, rfl, rfl, rfl, rfl⟩ rfl rfl rfl rfl rfl (by kernel_rfl) Try.func3 (by kernel_rfl)
    (of_decide_eq_true (by kernel_rfl)) (by unfold Func.isWrapper; first | (rw [if_pos (by decide +kernel)]; kernel_rfl) | (rw [if_neg (by decide +kernel)]; exact ⟨rfl, rfl⟩))
    (fun os started H enc _ => lifted os started H enc)
end Go.Proofs.Ytiifjjcoepgobaa.UnifyMakes
namespace Go.Proofs.Ytiifjjcoepgobaa
theorem unifyMakesProved : Rows.UnifyMakesSaid := UnifyMakes.over
#print axioms unifyMakesProved
end Go.Proofs.Ytiifjjcoepgobaa
