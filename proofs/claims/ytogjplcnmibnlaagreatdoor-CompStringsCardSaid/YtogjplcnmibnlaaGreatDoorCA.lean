/- slices.Grow, of nothing: its contract, and as a primitive. -/
import Derived.Test.YtogjplcnmibnlaaGreatDoorCEnv
import Derived.Test.YtogjplcnmibnlaaGreatDoorEwL
import Derived.WalkKit
set_option autoImplicit false
set_option maxRecDepth 100000
set_option linter.unusedVariables false
set_option linter.unusedSectionVars false
namespace Go.Proofs.YtogjplcnmibnlaaGreatDoor.Env
open Go.RowKit Go.Ev

theorem strInfo : ∃ i, Tryz.prog.info? 9 = some i ∧ i.zero = some (.string ⟨#[]⟩) ∧ i.size = 1 ∧ i.bytes = 16 := ⟨_, rfl, rfl, rfl, rfl⟩
theorem grow0 (A : Option Addr) (w : World) : Calls Tryz.prog 127 #[.slice A 0 0, .int .i64 0] w fun e w' => e = .returned (.slice A 0 0) ∧ w' = w := by
  go_enter Tryz.func127, Tryz.ntmps127
  go_wp2
  go_ret
  exact ⟨rfl, rfl⟩
theorem growN (A : Option Addr) (n : Nat) (h0 : 0 < n) (hb : n * 16 ≤ 140737488355328) (w : World) : Calls Tryz.prog 127 #[.slice A 0 0, .int .i64 n] w fun e w' =>
    e = .returned (.slice (some ⟨w.heap.size, 0, none⟩) 0 (grownCap w n 0 9)) ∧ w' = w.drew.alloc (.cells (Builtin.zeroCells (Value.string ⟨#[]⟩).cells n ++ Builtin.zeroCells (Value.string ⟨#[]⟩).cells (grownCap w n 0 9 - n)) 9) := by
  obtain ⟨i, i1, i2, i3, i4⟩ := strInfo
  have hr := run_append_zeros (P := Tryz.prog) w 25 3 25 9 i (.string ⟨#[]⟩) .i64 .i64 Tryz.underlying25 Tryz.underlying3 i1 i2 A n h0 (by omega) (by omega) (by rw [i4]; omega)
  go_enter Tryz.func127, Tryz.ntmps127
  go_wp2_with (at_builtin; refine Lib.wpList_append_run _ rfl _ _ _ _ rfl _ _ rfl rfl _ _ hr ?_)
  go_ret
  exact ⟨rfl, rfl⟩
theorem pGrow_ok : PrimOk Tryz.prog 127 (primGrow 9 1 16) := by
  refine ⟨⟨Tryz.f127, Tryz.func127, by kernel_rfl, by kernel_rfl⟩, fun args h v h' he G w A I hA => ?_⟩
  unfold primGrow at he
  split at he
  · rename_i n
    obtain ⟨l⟩ := A
    obtain ⟨V0, l, rfl, r0, hA⟩ := hA.uncons
    obtain ⟨V1, l, rfl, r1, hA⟩ := hA.uncons
    have : l = [] := List.eq_nil_of_length_eq_zero hA.1
    subst this
    obtain ⟨B, rfl⟩ : ∃ B, V0 = .slice B 0 0 := by
      cases r0 with
      | sl0 A cap o hn ho => have : cap = 0 := ho; subst this; exact ⟨A, rfl⟩
      | sl b off len cap s o els f hl hc hs h1 h2 ho =>
        have e1 : len = 0 := by rw [← hl]; rfl
        have e2 : cap = len := ho
        subst e1; subst e2
        exact ⟨_, rfl⟩
    cases r1
    cases hz : Nat.beq n 0 with
    | true =>
      rw [hz] at he
      simp only [cond_true, Option.some.injEq, Prod.mk.injEq] at he
      obtain ⟨rfl, rfl⟩ := he
      have := beq_nat.1 hz
      subst this
      refine (grow0 B w).mono ?_
      rintro e w' ⟨rfl, rfl⟩
      exact ⟨G, _, rfl, r0, I, Ext.refl G w' h⟩
    | false =>
      rw [hz] at he
      simp only [cond_false] at he
      cases hb : Nat.ble (n * 16) 140737488355328 with
      | false => rw [hb] at he; simp at he
      | true =>
        rw [hb] at he
        simp only [cond_true, Option.some.injEq, Prod.mk.injEq] at he
        obtain ⟨rfl, rfl⟩ := he
        have hle := Nat.le_of_ble_eq_true hb
        have h0 : 0 < n := by
          rcases Nat.eq_zero_or_pos n with rfl | h
          · simp at hz
          · exact h
        refine (growN B n h0 hle w).mono ?_
        rintro e w' ⟨rfl, rfl⟩
        have I1 : Inv G w.drew h := grow_inv I rfl rfl rfl (Nat.le_refl _) fun _ _ => rfl
        have X1 : Ext G w h G w.drew h := grow_ext G h rfl rfl rfl (Nat.le_refl _) fun _ _ => rfl
        have hge := grownCap_ge w n 0 9
        obtain ⟨G', I2, X2, r⟩ := new_room I1 (e := 9) (s := 1) (cap := grownCap w n 0 9) (C := Builtin.zeroCells (Value.string ⟨#[]⟩).cells n ++ Builtin.zeroCells (Value.string ⟨#[]⟩).cells (grownCap w n 0 9 - n)) (by omega) (grownCap_le_maxLen w n 0 9 (by simp only [maxLen]; omega))
          (by simp only [Array.size_append, size_zeroCells, Value.cells, List.size_toArray, List.length_cons, List.length_nil]; omega)
        exact ⟨G', _, rfl, r, I2, X1.trans X2⟩
  · cases he
end Go.Proofs.YtogjplcnmibnlaaGreatDoor.Env
