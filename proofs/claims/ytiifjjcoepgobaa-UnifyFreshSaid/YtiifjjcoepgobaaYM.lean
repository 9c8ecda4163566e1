/- The law UnifyFresh on the machine. -/
import Derived.Test.YtiifjjcoepgobaaYL
set_option autoImplicit false
set_option maxRecDepth 100000
set_option linter.unusedSimpArgs false
set_option linter.unusedVariables false
set_option linter.unusedSectionVars false
namespace Go.Proofs.Ytiifjjcoepgobaa.Env
open Go.Ev

theorem fresh_run {s : Nat} {mm : Option Nat} {nx : Int} (h : H) (hs : h.t.get s = some (.cells [.map mm, .int .i64 nx])) (hl : s < h.nx) (h0 : 0 ≤ nx) (h1 : nx ≤ 1000000) :
    evL envL 20 [.ptr (some (s, 0))] h = some (.agg [.str varS, .int .i64 nx, .sl .full []], ⟨((h.t.set h.nx (.cells [.str [], .int .i64 0, .sl .full []])).set s (.cells [.map mm, .int .i64 (nx + 1)])).set h.nx (.cells [.str varS, .int .i64 nx, .sl .full []]), h.nx + 1⟩) := by
  have hn : s ≠ h.nx := by omega
  have hn' : h.nx ≠ s := by omega
  have w1 : wr .i64 (nx + 1) = nx + 1 := by rw [wr_eq]; exact wrap_i64_in (by omega) (by omega)
  have w2 : wr .i64 nx = nx := by rw [wr_eq]; exact wrap_i64_in (by omega) (by omega)
  rw [evL_fn envL (fn := Try.f20) (by kernel_rfl) (by kernel_rfl) rfl _ _ rfl]
  simp only [Try.f20]
  simp [cdL_seq, cdL_region, cdL_drawn, cdL_cond, cdL_block, cdL_skip, cdL_label, cdL_exit, cdL_ret, endL, evSeq, evOne, evAct, evOp, opKind, evPure, evRead, evNew, evWrite, evSlice, natOf, optVal, readAt, AV.cells, wantedA, putTm, val, allVals, evBin, evInt, evStr, evAppend, denseFrom, sizesAre, onesIn, evPlan, recheck, AV.beq_refl, H.new, H.put, fillF, fillAt, allOne, AV.one, setArgs, evRes, resOf, ofVal, ofVal0, blt_dec, ble_dec, beq_dec, T.get_set_ite, T.get_e, isShift, ikBeq, ty_0, ty_1, ty_2, ty_3, ty_4, ty_5, ty_6, ty_7, ty_8, ty_9, ty_10, ty_11, ty_12, ty_13, ty_14, ty_15, ty_16, ty_17, ty_18, ty_19, ty_20, ty_21, ty_22, ty_23, ty_24, ty_25, ty_26, ty_27, ty_28, ty_29, ty_30, ty_31, ty_32, ty_33, ty_34, ty_35, ty_36, ty_37, ty_38, ty_39, ty_40, ty_41, ty_42, ty_43, ty_44, ty_45, ty_46, ty_47, ty_48, ty_49, ty_50, ty_51, ty_52, ty_53, ty_54, ty_55, ty_56, ty_57, ty_58, ty_59, ty_60, ty_61, ty_62, ty_63, ty_64, ty_65, ty_66, ty_67, ty_68, ty_69, ty_70, ty_71, ty_72, ty_73, ty_74, ty_75, ty_76, ty_77, ty_78, pl_3_7, pl_3_12, pl_3_14, pl_3_15, pl_3_17, pl_4_12, pl_5_7, pl_6_16, pl_6_21, pl_7_3, pl_7_7, pl_8_5, pl_12_3, pl_13_1, pl_13_11, pl_15_6, pl_16_8, pl_17_4, pl_19_5, pl_19_12, pl_24_5, pl_24_12, pl_26_1, pl_27_2, pl_28_3, pl_30_3, pl_33_2, eLty, eLpl, evEq, hs, hn, hn', w1, w2, isub, bytesOf, varS]
theorem fresh_nil (h : H) : ∃ h', evL envL 20 [.ptr none] h = some (.agg [.str [], .int .i64 0, .sl .full []], h') := by
  rw [evL_fn envL (fn := Try.f20) (by kernel_rfl) (by kernel_rfl) rfl _ _ rfl]
  simp only [Try.f20]
  simp [cdL_seq, cdL_region, cdL_drawn, cdL_cond, cdL_block, cdL_skip, cdL_label, cdL_exit, cdL_ret, endL, evSeq, evOne, evAct, evOp, opKind, evPure, evRead, evNew, evWrite, evSlice, natOf, optVal, readAt, AV.cells, wantedA, putTm, val, allVals, evBin, evInt, evStr, evAppend, denseFrom, sizesAre, onesIn, evPlan, recheck, AV.beq_refl, H.new, H.put, fillF, fillAt, allOne, AV.one, setArgs, evRes, resOf, ofVal, ofVal0, blt_dec, ble_dec, beq_dec, T.get_set_ite, T.get_e, isShift, ikBeq, ty_0, ty_1, ty_2, ty_3, ty_4, ty_5, ty_6, ty_7, ty_8, ty_9, ty_10, ty_11, ty_12, ty_13, ty_14, ty_15, ty_16, ty_17, ty_18, ty_19, ty_20, ty_21, ty_22, ty_23, ty_24, ty_25, ty_26, ty_27, ty_28, ty_29, ty_30, ty_31, ty_32, ty_33, ty_34, ty_35, ty_36, ty_37, ty_38, ty_39, ty_40, ty_41, ty_42, ty_43, ty_44, ty_45, ty_46, ty_47, ty_48, ty_49, ty_50, ty_51, ty_52, ty_53, ty_54, ty_55, ty_56, ty_57, ty_58, ty_59, ty_60, ty_61, ty_62, ty_63, ty_64, ty_65, ty_66, ty_67, ty_68, ty_69, ty_70, ty_71, ty_72, ty_73, ty_74, ty_75, ty_76, ty_77, ty_78, pl_3_7, pl_3_12, pl_3_14, pl_3_15, pl_3_17, pl_4_12, pl_5_7, pl_6_16, pl_6_21, pl_7_3, pl_7_7, pl_8_5, pl_12_3, pl_13_1, pl_13_11, pl_15_6, pl_16_8, pl_17_4, pl_19_5, pl_19_12, pl_24_5, pl_24_12, pl_26_1, pl_27_2, pl_28_3, pl_30_3, pl_33_2, eLty, eLpl, evEq]
noncomputable def b4_0 : Code := loopOf Try.f4 0
theorem body4 : Try.f4.body = some (.seq (codeAt Try.f4 [0]) (.seq (codeAt Try.f4 [1, 0]) (.seq (codeAt Try.f4 [1, 1, 0]) (.seq (codeAt Try.f4 [1, 1, 1, 0]) (.seq (.seq (codeAt Try.f4 [1, 1, 1, 1, 0, 0]) (.block 0 (.loop b4_0))) (codeAt Try.f4 [1, 1, 1, 1, 1])))))) := rfl
structure R4 (n i : Nat) (c : Ev.Obj) (tm : Tm) (h : H) : Prop where
  g0 : tm.get 0 = some (.int .i64 ↑n)
  g3 : tm.get 3 = some (.ptr (some (0, 0)))
  g5 : tm.get 5 = some (.ptr (some (2, 0)))
  g6 : tm.get 6 = some (.int .i64 ↑i)
  z0 : h.t.get 0 = some c
  z1 : h.t.get 1 = some (.map [])
  z2 : h.t.get 2 = some (.cells [.map (some 1), .int .i64 ↑i])
  zn : 3 ≤ h.nx
theorem loop4 {n : Nat} (hn : n ≤ 100) {c : Ev.Obj} : ∀ (k i : Nat) {tm : Tm} {h : H} {x : Option (Ex × Tm × H)}, cdL envL 4 79 (.loop b4_0) tm h = x → i + k = n → R4 n i c tm h →
    ∃ tm' h', x = some (.exit 0, tm', h') ∧ R4 n n c tm' h'
  | 0, i, tm, h, x, hx, hk, R0 => by
    obtain rfl : i = n := by omega
    obtain ⟨g0, g3, g5, g6, z0, z1, z2, zn⟩ := R0
    obtain ⟨R, hR, hx⟩ := loop_step hx
    simp [b4_0, loopOf, Try.f4, loops, cdL_seq, cdL_region, cdL_drawn, cdL_cond, cdL_block, cdL_skip, cdL_label, cdL_exit, cdL_ret, endL, evSeq, evOne, evAct, evOp, opKind, evPure, evRead, evNew, evWrite, evSlice, natOf, optVal, readAt, AV.cells, wantedA, putTm, val, allVals, evBin, evInt, evStr, evAppend, denseFrom, sizesAre, onesIn, evPlan, recheck, AV.beq_refl, H.new, H.put, fillF, fillAt, allOne, AV.one, setArgs, evRes, resOf, ofVal, ofVal0, blt_dec, ble_dec, beq_dec, T.get_set_ite, T.get_e, isShift, ikBeq, ty_0, ty_1, ty_2, ty_3, ty_4, ty_5, ty_6, ty_7, ty_8, ty_9, ty_10, ty_11, ty_12, ty_13, ty_14, ty_15, ty_16, ty_17, ty_18, ty_19, ty_20, ty_21, ty_22, ty_23, ty_24, ty_25, ty_26, ty_27, ty_28, ty_29, ty_30, ty_31, ty_32, ty_33, ty_34, ty_35, ty_36, ty_37, ty_38, ty_39, ty_40, ty_41, ty_42, ty_43, ty_44, ty_45, ty_46, ty_47, ty_48, ty_49, ty_50, ty_51, ty_52, ty_53, ty_54, ty_55, ty_56, ty_57, ty_58, ty_59, ty_60, ty_61, ty_62, ty_63, ty_64, ty_65, ty_66, ty_67, ty_68, ty_69, ty_70, ty_71, ty_72, ty_73, ty_74, ty_75, ty_76, ty_77, ty_78, pl_3_7, pl_3_12, pl_3_14, pl_3_15, pl_3_17, pl_4_12, pl_5_7, pl_6_16, pl_6_21, pl_7_3, pl_7_7, pl_8_5, pl_12_3, pl_13_1, pl_13_11, pl_15_6, pl_16_8, pl_17_4, pl_19_5, pl_19_12, pl_24_5, pl_24_12, pl_26_1, pl_27_2, pl_28_3, pl_30_3, pl_33_2, lp, eLty, eLpl, g0, g5, g6, ltI_f] at hx
    exact ⟨_, h, hx.symm, by simp [T.get_set_ite, g0], by simp [T.get_set_ite, g3], by simp [T.get_set_ite, g5], by simp [T.get_set_ite, g6], z0, z1, z2, zn⟩
  | k + 1, i, tm, h, x, hx, hk, R0 => by
    obtain ⟨g0, g3, g5, g6, z0, z1, z2, zn⟩ := R0
    obtain ⟨R, hR, hx⟩ := loop_step hx
    have hlt' := ltI_t (a := i) (b := n) (by omega)
    have hw := wr_succ (i := i) (by omega)
    have k20 := fresh_run h z2 (by omega) (by omega) (by omega)
    have k21 := fun h => c21 (E := envL) (by kernel_rfl) (↑i) h
    have hfit : fit (.mk varS ↑i []) := by simp [fit, fits]; omega
    have k15 := fun h => cL15 (x := .agg [.str varS, .int .i64 ↑i, .sl .full []]) (a := .mk varS ↑i []) (b := .mk varS ↑i []) (by simp [Ty.av, Ty.avs, wk_agg, wk_tup, wk_sl, wks_cons, wks_nil, wk_int, wk_str, wk_bool, own_no]) (Ty.av_bare 0 _) hfit hfit h
    rw [sameF_iff.2 rfl] at k15
    simp only [Ty.av, Ty.avs] at k21 k15
    simp [b4_0, loopOf, Try.f4, loops, cdL_seq, cdL_region, cdL_drawn, cdL_cond, cdL_block, cdL_skip, cdL_label, cdL_exit, cdL_ret, endL, evSeq, evOne, evAct, evOp, opKind, evPure, evRead, evNew, evWrite, evSlice, natOf, optVal, readAt, AV.cells, wantedA, putTm, val, allVals, evBin, evInt, evStr, evAppend, denseFrom, sizesAre, onesIn, evPlan, recheck, AV.beq_refl, H.new, H.put, fillF, fillAt, allOne, AV.one, setArgs, evRes, resOf, ofVal, ofVal0, blt_dec, ble_dec, beq_dec, T.get_set_ite, T.get_e, isShift, ikBeq, ty_0, ty_1, ty_2, ty_3, ty_4, ty_5, ty_6, ty_7, ty_8, ty_9, ty_10, ty_11, ty_12, ty_13, ty_14, ty_15, ty_16, ty_17, ty_18, ty_19, ty_20, ty_21, ty_22, ty_23, ty_24, ty_25, ty_26, ty_27, ty_28, ty_29, ty_30, ty_31, ty_32, ty_33, ty_34, ty_35, ty_36, ty_37, ty_38, ty_39, ty_40, ty_41, ty_42, ty_43, ty_44, ty_45, ty_46, ty_47, ty_48, ty_49, ty_50, ty_51, ty_52, ty_53, ty_54, ty_55, ty_56, ty_57, ty_58, ty_59, ty_60, ty_61, ty_62, ty_63, ty_64, ty_65, ty_66, ty_67, ty_68, ty_69, ty_70, ty_71, ty_72, ty_73, ty_74, ty_75, ty_76, ty_77, ty_78, pl_3_7, pl_3_12, pl_3_14, pl_3_15, pl_3_17, pl_4_12, pl_5_7, pl_6_16, pl_6_21, pl_7_3, pl_7_7, pl_8_5, pl_12_3, pl_13_1, pl_13_11, pl_15_6, pl_16_8, pl_17_4, pl_19_5, pl_19_12, pl_24_5, pl_24_12, pl_26_1, pl_27_2, pl_28_3, pl_30_3, pl_33_2, lp, eLty, eLpl, g0, g5, g6, hlt', hw, k20, k21, k15] at hx
    rw [hR] at hx
    refine loop4 hn k (i + 1) hx (by omega) ⟨by simp [T.get_set_ite, g0], by simp [T.get_set_ite, g3], by simp [T.get_set_ite, g5], by simp [T.get_set_ite], ?_, ?_, ?_, by simp; omega⟩
    · simp only [T.get_set_ite]; rw [if_neg (by omega), if_neg (by omega), if_neg (by omega)]; exact z0
    · simp only [T.get_set_ite]; rw [if_neg (by omega), if_neg (by omega), if_neg (by omega)]; exact z1
    · simp [T.get_set_ite, show (2 : Nat) ≠ h.nx by omega]
theorem law4 (n : Int) (t : Ty) (hf : fit t) : ∃ h', evL envL 4 [.int .i64 n, t.av] ⟨.e, 0⟩ = some (.bool true, h') := by
  have k9 := fun h => c9 (E := envL) (by kernel_rfl) t 100 hf (by omega) h
  have k10 := fun h => cL10 t hf h
  obtain ⟨a0, a1, a2, ha⟩ := av_cells t
  cases h1 : ltI n 0 with
  | true =>
    rw [ha] at k9 k10 ⊢
    rw [evL_fn envL (by kernel_rfl) (by kernel_rfl) body4 _ _ rfl]
    simp only [codeAt, sub, Try.f4]
    simp [cdL_seq, cdL_region, cdL_drawn, cdL_cond, cdL_block, cdL_skip, cdL_label, cdL_exit, cdL_ret, endL, evSeq, evOne, evAct, evOp, opKind, evPure, evRead, evNew, evWrite, evSlice, natOf, optVal, readAt, AV.cells, wantedA, putTm, val, allVals, evBin, evInt, evStr, evAppend, denseFrom, sizesAre, onesIn, evPlan, recheck, AV.beq_refl, H.new, H.put, fillF, fillAt, allOne, AV.one, setArgs, evRes, resOf, ofVal, ofVal0, blt_dec, ble_dec, beq_dec, T.get_set_ite, T.get_e, isShift, ikBeq, ty_0, ty_1, ty_2, ty_3, ty_4, ty_5, ty_6, ty_7, ty_8, ty_9, ty_10, ty_11, ty_12, ty_13, ty_14, ty_15, ty_16, ty_17, ty_18, ty_19, ty_20, ty_21, ty_22, ty_23, ty_24, ty_25, ty_26, ty_27, ty_28, ty_29, ty_30, ty_31, ty_32, ty_33, ty_34, ty_35, ty_36, ty_37, ty_38, ty_39, ty_40, ty_41, ty_42, ty_43, ty_44, ty_45, ty_46, ty_47, ty_48, ty_49, ty_50, ty_51, ty_52, ty_53, ty_54, ty_55, ty_56, ty_57, ty_58, ty_59, ty_60, ty_61, ty_62, ty_63, ty_64, ty_65, ty_66, ty_67, ty_68, ty_69, ty_70, ty_71, ty_72, ty_73, ty_74, ty_75, ty_76, ty_77, ty_78, pl_3_7, pl_3_12, pl_3_14, pl_3_15, pl_3_17, pl_4_12, pl_5_7, pl_6_16, pl_6_21, pl_7_3, pl_7_7, pl_8_5, pl_12_3, pl_13_1, pl_13_11, pl_15_6, pl_16_8, pl_17_4, pl_19_5, pl_19_12, pl_24_5, pl_24_12, pl_26_1, pl_27_2, pl_28_3, pl_30_3, pl_33_2, eLty, eLpl, h1]
  | false =>
    cases h2 : ltI 100 n with
    | true =>
      rw [ha] at k9 k10 ⊢
      rw [evL_fn envL (by kernel_rfl) (by kernel_rfl) body4 _ _ rfl]
      simp only [codeAt, sub, Try.f4]
      simp [cdL_seq, cdL_region, cdL_drawn, cdL_cond, cdL_block, cdL_skip, cdL_label, cdL_exit, cdL_ret, endL, evSeq, evOne, evAct, evOp, opKind, evPure, evRead, evNew, evWrite, evSlice, natOf, optVal, readAt, AV.cells, wantedA, putTm, val, allVals, evBin, evInt, evStr, evAppend, denseFrom, sizesAre, onesIn, evPlan, recheck, AV.beq_refl, H.new, H.put, fillF, fillAt, allOne, AV.one, setArgs, evRes, resOf, ofVal, ofVal0, blt_dec, ble_dec, beq_dec, T.get_set_ite, T.get_e, isShift, ikBeq, ty_0, ty_1, ty_2, ty_3, ty_4, ty_5, ty_6, ty_7, ty_8, ty_9, ty_10, ty_11, ty_12, ty_13, ty_14, ty_15, ty_16, ty_17, ty_18, ty_19, ty_20, ty_21, ty_22, ty_23, ty_24, ty_25, ty_26, ty_27, ty_28, ty_29, ty_30, ty_31, ty_32, ty_33, ty_34, ty_35, ty_36, ty_37, ty_38, ty_39, ty_40, ty_41, ty_42, ty_43, ty_44, ty_45, ty_46, ty_47, ty_48, ty_49, ty_50, ty_51, ty_52, ty_53, ty_54, ty_55, ty_56, ty_57, ty_58, ty_59, ty_60, ty_61, ty_62, ty_63, ty_64, ty_65, ty_66, ty_67, ty_68, ty_69, ty_70, ty_71, ty_72, ty_73, ty_74, ty_75, ty_76, ty_77, ty_78, pl_3_7, pl_3_12, pl_3_14, pl_3_15, pl_3_17, pl_4_12, pl_5_7, pl_6_16, pl_6_21, pl_7_3, pl_7_7, pl_8_5, pl_12_3, pl_13_1, pl_13_11, pl_15_6, pl_16_8, pl_17_4, pl_19_5, pl_19_12, pl_24_5, pl_24_12, pl_26_1, pl_27_2, pl_28_3, pl_30_3, pl_33_2, eLty, eLpl, h1, h2]
    | false =>
      cases h3 : ltI 50 (szF t 100) with
      | true =>
        rw [ha] at k9 k10 ⊢
        rw [evL_fn envL (by kernel_rfl) (by kernel_rfl) body4 _ _ rfl]
        simp only [codeAt, sub, Try.f4]
        simp [cdL_seq, cdL_region, cdL_drawn, cdL_cond, cdL_block, cdL_skip, cdL_label, cdL_exit, cdL_ret, endL, evSeq, evOne, evAct, evOp, opKind, evPure, evRead, evNew, evWrite, evSlice, natOf, optVal, readAt, AV.cells, wantedA, putTm, val, allVals, evBin, evInt, evStr, evAppend, denseFrom, sizesAre, onesIn, evPlan, recheck, AV.beq_refl, H.new, H.put, fillF, fillAt, allOne, AV.one, setArgs, evRes, resOf, ofVal, ofVal0, blt_dec, ble_dec, beq_dec, T.get_set_ite, T.get_e, isShift, ikBeq, ty_0, ty_1, ty_2, ty_3, ty_4, ty_5, ty_6, ty_7, ty_8, ty_9, ty_10, ty_11, ty_12, ty_13, ty_14, ty_15, ty_16, ty_17, ty_18, ty_19, ty_20, ty_21, ty_22, ty_23, ty_24, ty_25, ty_26, ty_27, ty_28, ty_29, ty_30, ty_31, ty_32, ty_33, ty_34, ty_35, ty_36, ty_37, ty_38, ty_39, ty_40, ty_41, ty_42, ty_43, ty_44, ty_45, ty_46, ty_47, ty_48, ty_49, ty_50, ty_51, ty_52, ty_53, ty_54, ty_55, ty_56, ty_57, ty_58, ty_59, ty_60, ty_61, ty_62, ty_63, ty_64, ty_65, ty_66, ty_67, ty_68, ty_69, ty_70, ty_71, ty_72, ty_73, ty_74, ty_75, ty_76, ty_77, ty_78, pl_3_7, pl_3_12, pl_3_14, pl_3_15, pl_3_17, pl_4_12, pl_5_7, pl_6_16, pl_6_21, pl_7_3, pl_7_7, pl_8_5, pl_12_3, pl_13_1, pl_13_11, pl_15_6, pl_16_8, pl_17_4, pl_19_5, pl_19_12, pl_24_5, pl_24_12, pl_26_1, pl_27_2, pl_28_3, pl_30_3, pl_33_2, eLty, eLpl, h1, h2, k9, h3]
      | false =>
        cases h4 : isF t with
        | false =>
          rw [ha] at k9 k10 ⊢
          rw [evL_fn envL (by kernel_rfl) (by kernel_rfl) body4 _ _ rfl]
          simp only [codeAt, sub, Try.f4]
          simp [cdL_seq, cdL_region, cdL_drawn, cdL_cond, cdL_block, cdL_skip, cdL_label, cdL_exit, cdL_ret, endL, evSeq, evOne, evAct, evOp, opKind, evPure, evRead, evNew, evWrite, evSlice, natOf, optVal, readAt, AV.cells, wantedA, putTm, val, allVals, evBin, evInt, evStr, evAppend, denseFrom, sizesAre, onesIn, evPlan, recheck, AV.beq_refl, H.new, H.put, fillF, fillAt, allOne, AV.one, setArgs, evRes, resOf, ofVal, ofVal0, blt_dec, ble_dec, beq_dec, T.get_set_ite, T.get_e, isShift, ikBeq, ty_0, ty_1, ty_2, ty_3, ty_4, ty_5, ty_6, ty_7, ty_8, ty_9, ty_10, ty_11, ty_12, ty_13, ty_14, ty_15, ty_16, ty_17, ty_18, ty_19, ty_20, ty_21, ty_22, ty_23, ty_24, ty_25, ty_26, ty_27, ty_28, ty_29, ty_30, ty_31, ty_32, ty_33, ty_34, ty_35, ty_36, ty_37, ty_38, ty_39, ty_40, ty_41, ty_42, ty_43, ty_44, ty_45, ty_46, ty_47, ty_48, ty_49, ty_50, ty_51, ty_52, ty_53, ty_54, ty_55, ty_56, ty_57, ty_58, ty_59, ty_60, ty_61, ty_62, ty_63, ty_64, ty_65, ty_66, ty_67, ty_68, ty_69, ty_70, ty_71, ty_72, ty_73, ty_74, ty_75, ty_76, ty_77, ty_78, pl_3_7, pl_3_12, pl_3_14, pl_3_15, pl_3_17, pl_4_12, pl_5_7, pl_6_16, pl_6_21, pl_7_3, pl_7_7, pl_8_5, pl_12_3, pl_13_1, pl_13_11, pl_15_6, pl_16_8, pl_17_4, pl_19_5, pl_19_12, pl_24_5, pl_24_12, pl_26_1, pl_27_2, pl_28_3, pl_30_3, pl_33_2, eLty, eLpl, h1, h2, k9, h3, k10, h4]
        | true =>
          have hea : eachF t = true := by simp [isF] at h4; exact h4.2
          obtain ⟨m, rfl⟩ : ∃ m : Nat, n = ↑m := by
            rw [ltI_eq] at h1
            simp at h1
            exact ⟨n.toNat, by omega⟩
          have hm : m ≤ 100 := by
            rw [ltI_eq] at h2
            simp at h2
            omega
          have hg := each_good hea
          have k16 := fun h (hp : PSub h 2 1 ↑m []) => c16 (E := envL) (by kernel_rfl) (Ty.av_bare 0 t) hg hp (fun p hp => by simp at hp) (of_empty (dep t + 1) t (by omega))
          have k12 := fun h (hp : PSub h 2 1 ↑m []) => c12 (E := envL) (by kernel_rfl) (Ty.av_bare 0 t) (Ty.av_bare 0 t) hg hg hp (fun p hp => by simp at hp) (uni_same (dep t + 1) t (by omega))
          have k15 := fun h => cL15 (Ty.av_bare 0 t) (Ty.av_bare 0 t) hf hf h
          have k16n := fun h => c16n (E := envL) (h := h) (by kernel_rfl) (Ty.av_bare 0 t) hg
          have k12n := fun h => c12n (E := envL) (h := h) (by kernel_rfl) (Ty.av_bare 0 t) (Ty.av_bare 0 t) hg hg
          rw [sameF_iff.2 rfl] at k15
          have hL := fun (x : Option (Ex × Tm × H)) tm h => loop4 (n := m) hm (c := .cells t.av.cells) (tm := tm) (h := h) (x := x) m 0
          rw [ha] at k9 k10 k12 k16 k15 k16n k12n hL ⊢
          simp only [AV.cells] at hL
          rw [evL_fn envL (by kernel_rfl) (by kernel_rfl) body4 _ _ rfl]
          simp only [codeAt, sub, Try.f4]
          simp [cdL_seq, cdL_region, cdL_drawn, cdL_cond, cdL_block, cdL_skip, cdL_label, cdL_exit, cdL_ret, endL, evSeq, evOne, evAct, evOp, opKind, evPure, evRead, evNew, evWrite, evSlice, natOf, optVal, readAt, AV.cells, wantedA, putTm, val, allVals, evBin, evInt, evStr, evAppend, denseFrom, sizesAre, onesIn, evPlan, recheck, AV.beq_refl, H.new, H.put, fillF, fillAt, allOne, AV.one, setArgs, evRes, resOf, ofVal, ofVal0, blt_dec, ble_dec, beq_dec, T.get_set_ite, T.get_e, isShift, ikBeq, ty_0, ty_1, ty_2, ty_3, ty_4, ty_5, ty_6, ty_7, ty_8, ty_9, ty_10, ty_11, ty_12, ty_13, ty_14, ty_15, ty_16, ty_17, ty_18, ty_19, ty_20, ty_21, ty_22, ty_23, ty_24, ty_25, ty_26, ty_27, ty_28, ty_29, ty_30, ty_31, ty_32, ty_33, ty_34, ty_35, ty_36, ty_37, ty_38, ty_39, ty_40, ty_41, ty_42, ty_43, ty_44, ty_45, ty_46, ty_47, ty_48, ty_49, ty_50, ty_51, ty_52, ty_53, ty_54, ty_55, ty_56, ty_57, ty_58, ty_59, ty_60, ty_61, ty_62, ty_63, ty_64, ty_65, ty_66, ty_67, ty_68, ty_69, ty_70, ty_71, ty_72, ty_73, ty_74, ty_75, ty_76, ty_77, ty_78, pl_3_7, pl_3_12, pl_3_14, pl_3_15, pl_3_17, pl_4_12, pl_5_7, pl_6_16, pl_6_21, pl_7_3, pl_7_7, pl_8_5, pl_12_3, pl_13_1, pl_13_11, pl_15_6, pl_16_8, pl_17_4, pl_19_5, pl_19_12, pl_24_5, pl_24_12, pl_26_1, pl_27_2, pl_28_3, pl_30_3, pl_33_2, eLty, eLpl, h1, h2, k9, h3, k10, h4, new_run, evEq]
          generalize hx : cdL envL 4 79 (.loop b4_0) _ _ = x
          obtain ⟨tm', h', rfl, ⟨g0, g3, g5, g6, z0, z1, z2, zn⟩⟩ := hL x _ _ hx (by omega) ⟨by simp [T.get_set_ite], by simp [T.get_set_ite], by simp [T.get_set_ite], by simp [T.get_set_ite], by simp [T.get_set_ite], by simp [T.get_set_ite], by simp [T.get_set_ite], by simp⟩
          have q16 := k16 h' ⟨z2, z1, by omega, by omega⟩
          have q12 := k12 h' ⟨z2, z1, by omega, by omega⟩
          have q16' := k16 (h'.put 1 (.map (esOf []))) ⟨by simp [H.put, T.get_set_ite, z2], by simp [H.put, T.get_set_ite], by simp [H.put]; omega, by simp [H.put]; omega⟩
          obtain ⟨h3', q20⟩ := fresh_nil (h'.put 1 (.map (esOf [])))
          simp only [H.put] at q12 q16' q20
          simp [cdL_seq, cdL_region, cdL_drawn, cdL_cond, cdL_block, cdL_skip, cdL_label, cdL_exit, cdL_ret, endL, evSeq, evOne, evAct, evOp, opKind, evPure, evRead, evNew, evWrite, evSlice, natOf, optVal, readAt, AV.cells, wantedA, putTm, val, allVals, evBin, evInt, evStr, evAppend, denseFrom, sizesAre, onesIn, evPlan, recheck, AV.beq_refl, H.new, H.put, fillF, fillAt, allOne, AV.one, setArgs, evRes, resOf, ofVal, ofVal0, blt_dec, ble_dec, beq_dec, T.get_set_ite, T.get_e, isShift, ikBeq, ty_0, ty_1, ty_2, ty_3, ty_4, ty_5, ty_6, ty_7, ty_8, ty_9, ty_10, ty_11, ty_12, ty_13, ty_14, ty_15, ty_16, ty_17, ty_18, ty_19, ty_20, ty_21, ty_22, ty_23, ty_24, ty_25, ty_26, ty_27, ty_28, ty_29, ty_30, ty_31, ty_32, ty_33, ty_34, ty_35, ty_36, ty_37, ty_38, ty_39, ty_40, ty_41, ty_42, ty_43, ty_44, ty_45, ty_46, ty_47, ty_48, ty_49, ty_50, ty_51, ty_52, ty_53, ty_54, ty_55, ty_56, ty_57, ty_58, ty_59, ty_60, ty_61, ty_62, ty_63, ty_64, ty_65, ty_66, ty_67, ty_68, ty_69, ty_70, ty_71, ty_72, ty_73, ty_74, ty_75, ty_76, ty_77, ty_78, pl_3_7, pl_3_12, pl_3_14, pl_3_15, pl_3_17, pl_4_12, pl_5_7, pl_6_16, pl_6_21, pl_7_3, pl_7_7, pl_8_5, pl_12_3, pl_13_1, pl_13_11, pl_15_6, pl_16_8, pl_17_4, pl_19_5, pl_19_12, pl_24_5, pl_24_12, pl_26_1, pl_27_2, pl_28_3, pl_30_3, pl_33_2, eLty, eLpl, evEq, g0, g3, g5, g6, z0, q16, q12, q16', q20, k15, k16n, k12n, cL14, bytesOf, natsBeq]
end Go.Proofs.Ytiifjjcoepgobaa.Env
