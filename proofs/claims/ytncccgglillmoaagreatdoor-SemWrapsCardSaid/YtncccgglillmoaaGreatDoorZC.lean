/- The program's Free as a primitive: the machine runs all but the sorting. -/
import Derived.Test.YtncccgglillmoaaGreatDoorZEnv
import Derived.Test.YtncccgglillmoaaGreatDoorEwK
import Derived.Test.YtncccgglillmoaaGreatDoorEwG
import Derived.Test.YtncccgglillmoaaGreatDoorZShelf
set_option autoImplicit false
set_option maxRecDepth 100000
set_option linter.unusedSimpArgs false
set_option linter.unusedVariables false
set_option linter.unusedSectionVars false
namespace Go.Proofs.YtncccgglillmoaaGreatDoor.Env
open Go.Ev

abbrev sortI (l : List Int) : List Int := l.mergeSort fun x y => decide (x ≤ y)
theorem sort_up (l : List Int) : (Lib.compact (sortI l)).Pairwise (fun x y => x ≤ y ∧ x ≠ y) ∧ ∀ x, x ∈ Lib.compact (sortI l) ↔ x ∈ l := by
  have hs : (sortI l).Pairwise fun x y => x ≤ y := by
    have := List.pairwise_mergeSort (le := fun x y : Int => decide (x ≤ y)) (fun a b c h1 h2 => by simp only [decide_eq_true_eq] at *; omega) (fun a b => by simp only [Bool.or_eq_true, decide_eq_true_eq]; omega) l
    exact this.imp fun h => by simpa using h
  obtain ⟨q1, q2⟩ := compact_sorted (le := fun x y : Int => x ≤ y) (fun a => Int.le_refl a) (fun a b c => Int.le_trans) (fun a b => Int.le_antisymm) hs
  exact ⟨q1, fun x => by rw [q2, List.mem_mergeSort]⟩
theorem sort_eq (l : List Int) : Lib.compact (sortI l) = sortU l := by
  obtain ⟨q1, q2⟩ := sort_up l
  exact strict_eq (le := fun x y : Int => x ≤ y) (fun a b => Int.le_antisymm) q1 (sortU_up l) fun x => by rw [q2, sortU_mem]
theorem sortC150 : SortC Tryz.prog (Value.int .i64) sortI 150 where
  fn := ⟨_, Tryz.func150, by kernel_rfl, by kernel_rfl⟩
  len := fun zs => List.length_mergeSort zs
  nil := by simp [sortI]
  row := fun g cap zs w hH hg hl => calls_of_every_depth fun D => AnyS.slices_Sort_int_alone Tryz.lays189 D g 0 cap zs w hH hg hl
  none := fun p cap w => calls_of_every_depth fun D => AnyS.slices_Sort_int_none_alone Tryz.lays189 D p cap w
theorem compC151 : CompC Tryz.prog (Value.int .i64) (0 : Int) 151 where
  fn := ⟨_, Tryz.func151, by kernel_rfl, by kernel_rfl⟩
  row := fun g cap zs w hH hl hc => calls_of_every_depth fun D => AnyS.slices_Compact_int_in Tryz.laysNm220 D g 0 cap zs w hH hl hc
  none := fun p cap w => calls_of_every_depth fun D => AnyS.slices_Compact_int_empty_in Tryz.laysNm220 D p cap w
theorem int_inv : ∀ (G : Gh) (w : World) (V : Value) (x : Int), VR G w V (.int .i64 x) → V = .int .i64 x := fun G w V x r => by cases r; rfl
noncomputable def b137_0 : Code := loopOf Tryz.f137 0
noncomputable def pre137 : Code := .seq (codeAt Tryz.f137 [0]) (.seq (codeAt Tryz.f137 [1, 0]) (.seq (codeAt Tryz.f137 [1, 1, 0, 0]) (.block 0 (.loop b137_0))))
theorem body137 : Tryz.f137.body = some (.seq (codeAt Tryz.f137 [0]) (.seq (codeAt Tryz.f137 [1, 0]) (.seq (.seq (codeAt Tryz.f137 [1, 1, 0, 0]) (.block 0 (.loop b137_0))) (codeAt Tryz.f137 [1, 1, 1])))) := rfl
/-- The row is the call's own, or empty. -/
def ownRow (o : Own) (l : List Int) (h : H) : Bool :=
  match o with
  | .full => l.isEmpty
  | .ch id => match h.t.get id with
    | some (.chain n e s) => Nat.beq n l.length && (Nat.beq e 3 && Nat.beq s 1)
    | _ => false
  | .no => false
noncomputable def pFree (args : List AV) : Option AV :=
  match args with
  | [a] => match evCode (evFn env 60) env 137 39 60 pre137 (setArgs 0 [a] .e) ⟨.e, 0⟩ with
    | some (.normal, tm, h) => match tm.get 3 with
      | some (.sl o els) => match intsOf els with
        | some l => bif ownRow o l h && Nat.ble l.length 1000000 then some (.sl .no ((sortU l).map (AV.int .i64))) else none
        | none => none
      | _ => none
    | _ => none
  | _ => none
theorem pFree_some {args : List AV} {v : AV} (h : pFree args = some v) : ∃ a tm h' o l, args = [a] ∧ cdL env 137 39 pre137 (setArgs 0 [a] .e) ⟨.e, 0⟩ = some (.normal, tm, h') ∧ tm.get 3 = some (.sl o (l.map (AV.int .i64))) ∧ ownRow o l h' = true ∧ l.length ≤ 1000000 ∧ v = .sl .no ((sortU l).map (AV.int .i64)) := by
  unfold pFree at h
  split at h
  · rename_i a
    split at h
    · rename_i tm h' he
      split at h
      · rename_i o els hg
        split at h
        · rename_i l hi
          cases hc : (ownRow o l h' && Nat.ble l.length 1000000) with
          | false => rw [hc] at h; simp at h
          | true =>
            rw [hc] at h
            simp only [cond_true, Option.some.injEq] at h
            simp only [Bool.and_eq_true] at hc
            exact ⟨a, tm, h', o, l, rfl, lim_some (mono_cd env 137 39 pre137 _ _) he, by rw [← intsOf_some hi]; exact hg, hc.1, Nat.le_of_ble_eq_true hc.2, h.symm⟩
        · cases h
      · cases h
    · cases h
  · cases h
theorem pFree_ok : PrimOk Tryz.prog 137 (primSnap 40 pFree) := primSnap_ok (fn := Tryz.f137) Tryz.func137 (by kernel_rfl) (by kernel_rfl) fun args v hv G w A I hA => by
  obtain ⟨a, tm, h', o, l, rfl, hx, g3, hr, hll, rfl⟩ := pFree_some hv
  refine calls_of_wp Tryz.func137 body137 ?_
  have hAl : A.size = 1 := by have := hA.1; simpa using this
  have T0 : TmR (Gp G) w 39 (setArgs 0 [a] .e) { tmps := A ++ Array.replicate (39 - A.size) undef, defers := [] } := tmr_start (by simp) hA
  have hco := env_ok.plans 137 Tryz.f137 _ (by kernel_rfl) body137
  refine seq3_sim env_ok (by simp only [codeOk, Bool.and_eq_true] at hco ⊢; exact ⟨hco.1, hco.2.1, hco.2.2.1⟩) I T0 hx fun G1 w1 a1 I1 X1 T1 d1 => ?_
  have r := T1.val 3 _ g3
  have hsz := T1.size
  have hfr : (o = .full ∧ l = []) ∨ ∃ id, o = .ch id ∧ h'.t.get id = some (.chain l.length 3 1) := by
    unfold ownRow at hr
    split at hr
    · exact .inl ⟨rfl, by simpa using hr⟩
    · rename_i id
      split at hr
      · rename_i n e s hg
        simp only [Bool.and_eq_true, beq_nat] at hr
        obtain ⟨rfl, rfl, rfl⟩ := hr
        exact .inr ⟨id, rfl, hg⟩
      · cases hr
    · cases hr
  have ho := row_owned (enc := Value.int .i64) I1 X1 (av := AV.int .i64) int_inv (fun _ => rfl) hfr r
  obtain ⟨o0, o1, o2, o3, o4, hT, q0, q1, q2, q3, q4⟩ : ∃ o0 o1 o2 o3 o4, codeAt Tryz.f137 [1, 1, 1] = .seq (.region 12 #[o0, o1] false) (.seq (.region 13 #[o2, o3, o4] false) .ret) ∧ (o0.op = .move (.tmp 3) ∧ o0.dst = some 35 ∧ o0.guard = none) ∧
      (o1.op = .call { callee := .value (.func 150), args := #[.tmp 35], argTypes := #[23] } ∧ o1.dst = some 36 ∧ o1.guard = none) ∧ (o2.op = .move (.tmp 3) ∧ o2.dst = some 37 ∧ o2.guard = none) ∧
      (o3.op = .call { callee := .value (.func 151), args := #[.tmp 37], argTypes := #[23] } ∧ o3.dst = some 38 ∧ o3.guard = none) ∧ (o4.op = .assign (.tmp 38) ∧ o4.dst = some 2 ∧ o4.guard = none) :=
    ⟨_, _, _, _, _, rfl, ⟨rfl, rfl, rfl⟩, ⟨rfl, rfl, rfl⟩, ⟨rfl, rfl, rfl⟩, ⟨rfl, rfl, rfl⟩, ⟨rfl, rfl, rfl⟩⟩
  rw [hT, ← sort_eq]
  exact tail_sc (e := 3) sortC150 compC151 (av := AV.int .i64) (fun G w x => .int .i64 x) (fun _ => rfl) rfl (below_of_ext X1) (by omega) ho q0 q1 q2 q3 q4 rfl d1 rfl (by rw [hsz]; omega) (by omega)
end Go.Proofs.YtncccgglillmoaaGreatDoor.Env
