/- Contains, ints: rows of numbers. -/
import Derived.Test.YtcmbpfobdgijjaaSE
set_option autoImplicit false
set_option maxRecDepth 100000
set_option linter.unusedSimpArgs false
set_option linter.unusedVariables false
set_option linter.unusedSectionVars false
namespace Go.Proofs.Ytcmbpfobdgijjaa.Env
open Go.Ev

noncomputable def b30_0 : Code := loopOf Try.f30 0
theorem body30 : Try.f30.body = some (.seq (codeAt Try.f30 [0]) (.seq (.seq (codeAt Try.f30 [1, 0, 0]) (.block 0 (.loop b30_0))) (codeAt Try.f30 [1, 1]))) := rfl
theorem intBeq_symm (a b : Int) : intBeq a b = intBeq b a := by rw [intBeq_eq, intBeq_eq]; exact decide_eq_decide.2 ⟨Eq.symm, Eq.symm⟩
theorem loop30 {o : Own} {L : List Int} {n : Int} (hl : L.length ≤ 9223372036854775807) : ∀ (l : List Int) (i : Nat) {tm : Tm} {h : H} {x : Option (Ex × Tm × H)}, cdL env 30 19 (.loop b30_0) tm h = x → l = L.drop i → i ≤ L.length →
    tm.get 0 = some (.sl o (ints L)) → tm.get 1 = some (.int .i64 n) → tm.get 7 = some (.int .i64 ↑L.length) → tm.get 8 = some (.int .i64 ↑i) → ∃ (tm' : Tm) (j : Nat), x = some (bif hasI l n then .ret else .exit 0, tm', h) ∧ (hasI l n = true → tm'.get 4 = some (.int .i64 ↑j))
  | [], i, tm, h, x, hx, hd, hi, h0, h1, h7, h8 => by
    have hlen := dnil hd hi
    obtain ⟨R, hR, hx⟩ := loop_step hx
    simp [b30_0, loopOf, Try.f30, loops, cdL_seq, cdL_region, cdL_drawn, cdL_cond, cdL_block, cdL_skip, cdL_label, cdL_exit, cdL_ret, endL, evSeq, evOne, evAct, evOp, opKind, evPure, evRead, evNew, evWrite, evSlice, natOf, optVal, readAt, AV.cells, wantedA, putTm, val, allVals, evBin, evInt, evStr, evAppend, denseFrom, sizesAre, onesIn, evPlan, recheck, AV.beq_refl, H.new, H.put, fillF, fillAt, allOne, AV.one, setArgs, evRes, resOf, ofVal, ofVal0, blt_dec, ble_dec, beq_dec, T.get_set_ite, T.get_e, isShift, ikBeq, ty_0, ty_1, ty_2, ty_3, ty_4, ty_5, ty_6, ty_7, ty_8, ty_9, ty_10, ty_11, ty_12, ty_13, ty_14, ty_15, ty_16, ty_17, ty_18, ty_19, ty_20, ty_21, ty_22, ty_23, ty_24, ty_25, ty_26, ty_27, ty_28, ty_29, ty_30, ty_31, ty_32, ty_33, ty_34, ty_35, ty_36, ty_37, ty_38, ty_39, ty_40, ty_41, ty_42, ty_43, ty_44, ty_45, ty_46, ty_47, ty_48, ty_49, ty_50, ty_51, ty_52, ty_53, ty_54, ty_55, ty_56, ty_57, ty_58, ty_59, ty_60, ty_61, ty_62, ty_63, ty_64, ty_65, ty_66, ty_67, ty_68, ty_69, ty_70, ty_71, ty_72, ty_73, ty_74, ty_75, ty_76, ty_77, ty_78, ty_79, ty_80, ty_81, ty_82, ty_83, ty_84, ty_85, ty_86, ty_87, ty_88, ty_89, ty_90, ty_91, ty_92, ty_93, ty_94, ty_95, ty_96, ty_97, ty_98, ty_99, pl_3_10, pl_4_3, pl_5_3, pl_10_9, pl_10_11, pl_10_13, pl_13_1, pl_13_7, pl_16_6, pl_18_6, pl_19_1, pl_27_6, pl_27_11, pl_33_17, pl_35_4, pl_35_6, pl_36_10, pl_37_10, pl_39_3, pl_40_5, pl_40_11, pl_40_16, pl_40_17, pl_40_22, pl_40_23, pl_42_1, pl_42_3, pl_42_5, pl_42_8, pl_43_1, pl_43_3, pl_43_5, pl_43_8, pl_43_10, pl_43_13, pl_43_15, pl_43_18, pl_43_21, pl_46_3, pl_46_5, pl_46_6, pl_48_1, pl_48_2, pl_48_3, pl_52_1, lp, h0, h1, h7, h8, hlen, ltI_f] at hx
    exact ⟨_, 0, by rw [← hx]; rfl, by simp [hasI]⟩
  | c :: l, i, tm, h, x, hx, hd, hi, h0, h1, h7, h8 => by
    obtain ⟨hlt, hc, hd'⟩ := dcons hd
    have hil := ints_len L
    have hic : (ints L)[i]? = some (.int .i64 c) := by unfold ints; rw [List.getElem?_map, hc]; rfl
    obtain ⟨R, hR, hx⟩ := loop_step hx
    have hlt' := ltI_t hlt
    have hw := wr_succ (i := i) (by omega)
    have hs := intBeq_symm n c
    cases hb : intBeq c n with
    | true =>
      rw [hb] at hs
      simp [b30_0, loopOf, Try.f30, loops, cdL_seq, cdL_region, cdL_drawn, cdL_cond, cdL_block, cdL_skip, cdL_label, cdL_exit, cdL_ret, endL, evSeq, evOne, evAct, evOp, opKind, evPure, evRead, evNew, evWrite, evSlice, natOf, optVal, readAt, AV.cells, wantedA, putTm, val, allVals, evBin, evInt, evStr, evAppend, denseFrom, sizesAre, onesIn, evPlan, recheck, AV.beq_refl, H.new, H.put, fillF, fillAt, allOne, AV.one, setArgs, evRes, resOf, ofVal, ofVal0, blt_dec, ble_dec, beq_dec, T.get_set_ite, T.get_e, isShift, ikBeq, ty_0, ty_1, ty_2, ty_3, ty_4, ty_5, ty_6, ty_7, ty_8, ty_9, ty_10, ty_11, ty_12, ty_13, ty_14, ty_15, ty_16, ty_17, ty_18, ty_19, ty_20, ty_21, ty_22, ty_23, ty_24, ty_25, ty_26, ty_27, ty_28, ty_29, ty_30, ty_31, ty_32, ty_33, ty_34, ty_35, ty_36, ty_37, ty_38, ty_39, ty_40, ty_41, ty_42, ty_43, ty_44, ty_45, ty_46, ty_47, ty_48, ty_49, ty_50, ty_51, ty_52, ty_53, ty_54, ty_55, ty_56, ty_57, ty_58, ty_59, ty_60, ty_61, ty_62, ty_63, ty_64, ty_65, ty_66, ty_67, ty_68, ty_69, ty_70, ty_71, ty_72, ty_73, ty_74, ty_75, ty_76, ty_77, ty_78, ty_79, ty_80, ty_81, ty_82, ty_83, ty_84, ty_85, ty_86, ty_87, ty_88, ty_89, ty_90, ty_91, ty_92, ty_93, ty_94, ty_95, ty_96, ty_97, ty_98, ty_99, pl_3_10, pl_4_3, pl_5_3, pl_10_9, pl_10_11, pl_10_13, pl_13_1, pl_13_7, pl_16_6, pl_18_6, pl_19_1, pl_27_6, pl_27_11, pl_33_17, pl_35_4, pl_35_6, pl_36_10, pl_37_10, pl_39_3, pl_40_5, pl_40_11, pl_40_16, pl_40_17, pl_40_22, pl_40_23, pl_42_1, pl_42_3, pl_42_5, pl_42_8, pl_43_1, pl_43_3, pl_43_5, pl_43_8, pl_43_10, pl_43_13, pl_43_15, pl_43_18, pl_43_21, pl_46_3, pl_46_5, pl_46_6, pl_48_1, pl_48_2, pl_48_3, pl_52_1, lp, h0, h1, h7, h8, hlt', hil, hic, hs, hw] at hx
      exact ⟨_, i, by rw [← hx]; simp [hasI, hb]; rfl, by simp [T.get_set_ite]⟩
    | false =>
      rw [hb] at hs
      simp [b30_0, loopOf, Try.f30, loops, cdL_seq, cdL_region, cdL_drawn, cdL_cond, cdL_block, cdL_skip, cdL_label, cdL_exit, cdL_ret, endL, evSeq, evOne, evAct, evOp, opKind, evPure, evRead, evNew, evWrite, evSlice, natOf, optVal, readAt, AV.cells, wantedA, putTm, val, allVals, evBin, evInt, evStr, evAppend, denseFrom, sizesAre, onesIn, evPlan, recheck, AV.beq_refl, H.new, H.put, fillF, fillAt, allOne, AV.one, setArgs, evRes, resOf, ofVal, ofVal0, blt_dec, ble_dec, beq_dec, T.get_set_ite, T.get_e, isShift, ikBeq, ty_0, ty_1, ty_2, ty_3, ty_4, ty_5, ty_6, ty_7, ty_8, ty_9, ty_10, ty_11, ty_12, ty_13, ty_14, ty_15, ty_16, ty_17, ty_18, ty_19, ty_20, ty_21, ty_22, ty_23, ty_24, ty_25, ty_26, ty_27, ty_28, ty_29, ty_30, ty_31, ty_32, ty_33, ty_34, ty_35, ty_36, ty_37, ty_38, ty_39, ty_40, ty_41, ty_42, ty_43, ty_44, ty_45, ty_46, ty_47, ty_48, ty_49, ty_50, ty_51, ty_52, ty_53, ty_54, ty_55, ty_56, ty_57, ty_58, ty_59, ty_60, ty_61, ty_62, ty_63, ty_64, ty_65, ty_66, ty_67, ty_68, ty_69, ty_70, ty_71, ty_72, ty_73, ty_74, ty_75, ty_76, ty_77, ty_78, ty_79, ty_80, ty_81, ty_82, ty_83, ty_84, ty_85, ty_86, ty_87, ty_88, ty_89, ty_90, ty_91, ty_92, ty_93, ty_94, ty_95, ty_96, ty_97, ty_98, ty_99, pl_3_10, pl_4_3, pl_5_3, pl_10_9, pl_10_11, pl_10_13, pl_13_1, pl_13_7, pl_16_6, pl_18_6, pl_19_1, pl_27_6, pl_27_11, pl_33_17, pl_35_4, pl_35_6, pl_36_10, pl_37_10, pl_39_3, pl_40_5, pl_40_11, pl_40_16, pl_40_17, pl_40_22, pl_40_23, pl_42_1, pl_42_3, pl_42_5, pl_42_8, pl_43_1, pl_43_3, pl_43_5, pl_43_8, pl_43_10, pl_43_13, pl_43_15, pl_43_18, pl_43_21, pl_46_3, pl_46_5, pl_46_6, pl_48_1, pl_48_2, pl_48_3, pl_52_1, lp, h0, h1, h7, h8, hlt', hil, hic, hs, hw] at hx
      rw [hR] at hx
      have e : hasI (c :: l) n = hasI l n := by simp [hasI, hb]
      rw [e]
      exact loop30 (o := o) (n := n) hl l (i + 1) hx hd' hlt (by simp [T.get_set_ite, h0]) (by simp [T.get_set_ite, h1]) (by simp [T.get_set_ite, h7]) (by simp [T.get_set_ite])
theorem index_run (o : Own) (L : List Int) (n : Int) (hl : L.length ≤ 9223372036854775807) (h : H) : ∃ k : Int, evL env 30 [.sl o (ints L), .int .i64 n] h = some (.int .i64 k, h) ∧ ltI k 0 = !hasI L n := by
  have hil := ints_len L
  rw [evL_fn env (by kernel_rfl) (by kernel_rfl) body30 _ _ rfl]
  simp only [codeAt, sub, Try.f30]
  simp [cdL_seq, cdL_region, cdL_drawn, cdL_cond, cdL_block, cdL_skip, cdL_label, cdL_exit, cdL_ret, endL, evSeq, evOne, evAct, evOp, opKind, evPure, evRead, evNew, evWrite, evSlice, natOf, optVal, readAt, AV.cells, wantedA, putTm, val, allVals, evBin, evInt, evStr, evAppend, denseFrom, sizesAre, onesIn, evPlan, recheck, AV.beq_refl, H.new, H.put, fillF, fillAt, allOne, AV.one, setArgs, evRes, resOf, ofVal, ofVal0, blt_dec, ble_dec, beq_dec, T.get_set_ite, T.get_e, isShift, ikBeq, ty_0, ty_1, ty_2, ty_3, ty_4, ty_5, ty_6, ty_7, ty_8, ty_9, ty_10, ty_11, ty_12, ty_13, ty_14, ty_15, ty_16, ty_17, ty_18, ty_19, ty_20, ty_21, ty_22, ty_23, ty_24, ty_25, ty_26, ty_27, ty_28, ty_29, ty_30, ty_31, ty_32, ty_33, ty_34, ty_35, ty_36, ty_37, ty_38, ty_39, ty_40, ty_41, ty_42, ty_43, ty_44, ty_45, ty_46, ty_47, ty_48, ty_49, ty_50, ty_51, ty_52, ty_53, ty_54, ty_55, ty_56, ty_57, ty_58, ty_59, ty_60, ty_61, ty_62, ty_63, ty_64, ty_65, ty_66, ty_67, ty_68, ty_69, ty_70, ty_71, ty_72, ty_73, ty_74, ty_75, ty_76, ty_77, ty_78, ty_79, ty_80, ty_81, ty_82, ty_83, ty_84, ty_85, ty_86, ty_87, ty_88, ty_89, ty_90, ty_91, ty_92, ty_93, ty_94, ty_95, ty_96, ty_97, ty_98, ty_99, pl_3_10, pl_4_3, pl_5_3, pl_10_9, pl_10_11, pl_10_13, pl_13_1, pl_13_7, pl_16_6, pl_18_6, pl_19_1, pl_27_6, pl_27_11, pl_33_17, pl_35_4, pl_35_6, pl_36_10, pl_37_10, pl_39_3, pl_40_5, pl_40_11, pl_40_16, pl_40_17, pl_40_22, pl_40_23, pl_42_1, pl_42_3, pl_42_5, pl_42_8, pl_43_1, pl_43_3, pl_43_5, pl_43_8, pl_43_10, pl_43_13, pl_43_15, pl_43_18, pl_43_21, pl_46_3, pl_46_5, pl_46_6, pl_48_1, pl_48_2, pl_48_3, pl_52_1, hil]
  generalize hx : cdL env 30 19 (.loop b30_0) _ _ = x
  obtain ⟨tm', j, rfl, g⟩ := loop30 (o := o) (n := n) hl L 0 hx rfl (Nat.zero_le _) (by simp [T.get_set_ite]) (by simp [T.get_set_ite]) (by simp [T.get_set_ite]) (by simp [T.get_set_ite])
  cases hb : hasI L n with
  | true => exact ⟨↑j, by simp [cdL_seq, cdL_region, cdL_drawn, cdL_cond, cdL_block, cdL_skip, cdL_label, cdL_exit, cdL_ret, endL, evSeq, evOne, evAct, evOp, opKind, evPure, evRead, evNew, evWrite, evSlice, natOf, optVal, readAt, AV.cells, wantedA, putTm, val, allVals, evBin, evInt, evStr, evAppend, denseFrom, sizesAre, onesIn, evPlan, recheck, AV.beq_refl, H.new, H.put, fillF, fillAt, allOne, AV.one, setArgs, evRes, resOf, ofVal, ofVal0, blt_dec, ble_dec, beq_dec, T.get_set_ite, T.get_e, isShift, ikBeq, ty_0, ty_1, ty_2, ty_3, ty_4, ty_5, ty_6, ty_7, ty_8, ty_9, ty_10, ty_11, ty_12, ty_13, ty_14, ty_15, ty_16, ty_17, ty_18, ty_19, ty_20, ty_21, ty_22, ty_23, ty_24, ty_25, ty_26, ty_27, ty_28, ty_29, ty_30, ty_31, ty_32, ty_33, ty_34, ty_35, ty_36, ty_37, ty_38, ty_39, ty_40, ty_41, ty_42, ty_43, ty_44, ty_45, ty_46, ty_47, ty_48, ty_49, ty_50, ty_51, ty_52, ty_53, ty_54, ty_55, ty_56, ty_57, ty_58, ty_59, ty_60, ty_61, ty_62, ty_63, ty_64, ty_65, ty_66, ty_67, ty_68, ty_69, ty_70, ty_71, ty_72, ty_73, ty_74, ty_75, ty_76, ty_77, ty_78, ty_79, ty_80, ty_81, ty_82, ty_83, ty_84, ty_85, ty_86, ty_87, ty_88, ty_89, ty_90, ty_91, ty_92, ty_93, ty_94, ty_95, ty_96, ty_97, ty_98, ty_99, pl_3_10, pl_4_3, pl_5_3, pl_10_9, pl_10_11, pl_10_13, pl_13_1, pl_13_7, pl_16_6, pl_18_6, pl_19_1, pl_27_6, pl_27_11, pl_33_17, pl_35_4, pl_35_6, pl_36_10, pl_37_10, pl_39_3, pl_40_5, pl_40_11, pl_40_16, pl_40_17, pl_40_22, pl_40_23, pl_42_1, pl_42_3, pl_42_5, pl_42_8, pl_43_1, pl_43_3, pl_43_5, pl_43_8, pl_43_10, pl_43_13, pl_43_15, pl_43_18, pl_43_21, pl_46_3, pl_46_5, pl_46_6, pl_48_1, pl_48_2, pl_48_3, pl_52_1, g hb], by rw [ltI_eq]; simp⟩
  | false => exact ⟨-1, by simp [cdL_seq, cdL_region, cdL_drawn, cdL_cond, cdL_block, cdL_skip, cdL_label, cdL_exit, cdL_ret, endL, evSeq, evOne, evAct, evOp, opKind, evPure, evRead, evNew, evWrite, evSlice, natOf, optVal, readAt, AV.cells, wantedA, putTm, val, allVals, evBin, evInt, evStr, evAppend, denseFrom, sizesAre, onesIn, evPlan, recheck, AV.beq_refl, H.new, H.put, fillF, fillAt, allOne, AV.one, setArgs, evRes, resOf, ofVal, ofVal0, blt_dec, ble_dec, beq_dec, T.get_set_ite, T.get_e, isShift, ikBeq, ty_0, ty_1, ty_2, ty_3, ty_4, ty_5, ty_6, ty_7, ty_8, ty_9, ty_10, ty_11, ty_12, ty_13, ty_14, ty_15, ty_16, ty_17, ty_18, ty_19, ty_20, ty_21, ty_22, ty_23, ty_24, ty_25, ty_26, ty_27, ty_28, ty_29, ty_30, ty_31, ty_32, ty_33, ty_34, ty_35, ty_36, ty_37, ty_38, ty_39, ty_40, ty_41, ty_42, ty_43, ty_44, ty_45, ty_46, ty_47, ty_48, ty_49, ty_50, ty_51, ty_52, ty_53, ty_54, ty_55, ty_56, ty_57, ty_58, ty_59, ty_60, ty_61, ty_62, ty_63, ty_64, ty_65, ty_66, ty_67, ty_68, ty_69, ty_70, ty_71, ty_72, ty_73, ty_74, ty_75, ty_76, ty_77, ty_78, ty_79, ty_80, ty_81, ty_82, ty_83, ty_84, ty_85, ty_86, ty_87, ty_88, ty_89, ty_90, ty_91, ty_92, ty_93, ty_94, ty_95, ty_96, ty_97, ty_98, ty_99, pl_3_10, pl_4_3, pl_5_3, pl_10_9, pl_10_11, pl_10_13, pl_13_1, pl_13_7, pl_16_6, pl_18_6, pl_19_1, pl_27_6, pl_27_11, pl_33_17, pl_35_4, pl_35_6, pl_36_10, pl_37_10, pl_39_3, pl_40_5, pl_40_11, pl_40_16, pl_40_17, pl_40_22, pl_40_23, pl_42_1, pl_42_3, pl_42_5, pl_42_8, pl_43_1, pl_43_3, pl_43_5, pl_43_8, pl_43_10, pl_43_13, pl_43_15, pl_43_18, pl_43_21, pl_46_3, pl_46_5, pl_46_6, pl_48_1, pl_48_2, pl_48_3, pl_52_1], rfl⟩
noncomputable abbrev pCont := primVal (ofRel (Rel2 (fun (l : List Int) (_ : Int) => l.length ≤ 9223372036854775807) hasI))
theorem pCont_ok : PrimOk Try.prog 21 pCont := prim2_ok env_ok (fn := Try.f21) (by kernel_rfl) rfl (by kernel_rfl) fun l n hl => by
  obtain ⟨k, hk, hb⟩ := index_run .no l n hl ⟨.e, 0⟩
  rw [show (Enc.enc l : AV) = .sl .no (ints l) from rfl, show (Enc.enc n : AV) = .int .i64 n from rfl]
  unfold bodyL
  simp only [Try.f21]
  simp [cdL_seq, cdL_region, cdL_drawn, cdL_cond, cdL_block, cdL_skip, cdL_label, cdL_exit, cdL_ret, endL, evSeq, evOne, evAct, evOp, opKind, evPure, evRead, evNew, evWrite, evSlice, natOf, optVal, readAt, AV.cells, wantedA, putTm, val, allVals, evBin, evInt, evStr, evAppend, denseFrom, sizesAre, onesIn, evPlan, recheck, AV.beq_refl, H.new, H.put, fillF, fillAt, allOne, AV.one, setArgs, evRes, resOf, ofVal, ofVal0, blt_dec, ble_dec, beq_dec, T.get_set_ite, T.get_e, isShift, ikBeq, ty_0, ty_1, ty_2, ty_3, ty_4, ty_5, ty_6, ty_7, ty_8, ty_9, ty_10, ty_11, ty_12, ty_13, ty_14, ty_15, ty_16, ty_17, ty_18, ty_19, ty_20, ty_21, ty_22, ty_23, ty_24, ty_25, ty_26, ty_27, ty_28, ty_29, ty_30, ty_31, ty_32, ty_33, ty_34, ty_35, ty_36, ty_37, ty_38, ty_39, ty_40, ty_41, ty_42, ty_43, ty_44, ty_45, ty_46, ty_47, ty_48, ty_49, ty_50, ty_51, ty_52, ty_53, ty_54, ty_55, ty_56, ty_57, ty_58, ty_59, ty_60, ty_61, ty_62, ty_63, ty_64, ty_65, ty_66, ty_67, ty_68, ty_69, ty_70, ty_71, ty_72, ty_73, ty_74, ty_75, ty_76, ty_77, ty_78, ty_79, ty_80, ty_81, ty_82, ty_83, ty_84, ty_85, ty_86, ty_87, ty_88, ty_89, ty_90, ty_91, ty_92, ty_93, ty_94, ty_95, ty_96, ty_97, ty_98, ty_99, pl_3_10, pl_4_3, pl_5_3, pl_10_9, pl_10_11, pl_10_13, pl_13_1, pl_13_7, pl_16_6, pl_18_6, pl_19_1, pl_27_6, pl_27_11, pl_33_17, pl_35_4, pl_35_6, pl_36_10, pl_37_10, pl_39_3, pl_40_5, pl_40_11, pl_40_16, pl_40_17, pl_40_22, pl_40_23, pl_42_1, pl_42_3, pl_42_5, pl_42_8, pl_43_1, pl_43_3, pl_43_5, pl_43_8, pl_43_10, pl_43_13, pl_43_15, pl_43_18, pl_43_21, pl_46_3, pl_46_5, pl_46_6, pl_48_1, pl_48_2, pl_48_3, pl_52_1, hk, hb, Enc.enc, AV.wk]
theorem cCont {E : Env} (hp : E.prim 21 = some pCont) (o : Own) (L : List Int) (n : Int) (hl : L.length ≤ 9223372036854775807) (h : H) : evL E 21 [.sl o (ints L), .int .i64 n] h = some (.bool (hasI L n), h) :=
  prim2_call (α := List Int) (β := Int) (a := L) (b := n) hp (by simp only [AV.wk]; exact ⟨.no, _, rfl, .inl rfl, wks_map_refl 0 L⟩) (by simp [AV.wk, Enc.enc]) hl h
/-! ### ints -/
def intsF : List Int → List Int → Bool
  | [], _ => true
  | _ :: _, [] => false
  | a :: l, b :: m => intBeq a b && intsF l m
def sameI (a b : List Int) : Bool := intBeq ↑a.length ↑b.length && intsF a b
theorem intsF_self : ∀ a : List Int, intsF a a = true
  | [] => rfl
  | a :: l => by simp [intsF, intBeq_iff.2 (rfl : a = a), intsF_self l]
theorem sameI_self (a : List Int) : sameI a a = true := by simp [sameI, intsF_self, intBeq_iff.2 (rfl : (↑a.length : Int) = _)]
noncomputable def b16_0 : Code := loopOf Try.f16 0
theorem body16 : Try.f16.body = some (.seq (codeAt Try.f16 [0]) (.seq (codeAt Try.f16 [1, 0]) (.seq (.seq (codeAt Try.f16 [1, 1, 0, 0]) (.block 0 (.loop b16_0))) (codeAt Try.f16 [1, 1, 1])))) := rfl
theorem loop16 {a b : List Int} (hl : a.length ≤ 9223372036854775807) (hab : a.length = b.length) : ∀ (l m : List Int) (i : Nat) {tm : Tm} {h : H} {x : Option (Ex × Tm × H)}, cdL env 16 26 (.loop b16_0) tm h = x → l = a.drop i → m = b.drop i → i ≤ a.length →
    tm.get 0 = some (.sl .no (ints a)) → tm.get 1 = some (.sl .no (ints b)) → tm.get 5 = some (.int .i64 ↑i) → ∃ tm' : Tm, x = some (bif intsF l m then .exit 0 else .ret, tm', h) ∧ (intsF l m = false → tm'.get 4 = some (.bool false))
  | [], m, i, tm, h, x, hx, hd, hm, hi, h0, h1, h5 => by
    have hlen := dnil hd hi
    have hil := ints_len a
    rw [hlen] at hil
    obtain ⟨R, hR, hx⟩ := loop_step hx
    simp [b16_0, loopOf, Try.f16, loops, cdL_seq, cdL_region, cdL_drawn, cdL_cond, cdL_block, cdL_skip, cdL_label, cdL_exit, cdL_ret, endL, evSeq, evOne, evAct, evOp, opKind, evPure, evRead, evNew, evWrite, evSlice, natOf, optVal, readAt, AV.cells, wantedA, putTm, val, allVals, evBin, evInt, evStr, evAppend, denseFrom, sizesAre, onesIn, evPlan, recheck, AV.beq_refl, H.new, H.put, fillF, fillAt, allOne, AV.one, setArgs, evRes, resOf, ofVal, ofVal0, blt_dec, ble_dec, beq_dec, T.get_set_ite, T.get_e, isShift, ikBeq, ty_0, ty_1, ty_2, ty_3, ty_4, ty_5, ty_6, ty_7, ty_8, ty_9, ty_10, ty_11, ty_12, ty_13, ty_14, ty_15, ty_16, ty_17, ty_18, ty_19, ty_20, ty_21, ty_22, ty_23, ty_24, ty_25, ty_26, ty_27, ty_28, ty_29, ty_30, ty_31, ty_32, ty_33, ty_34, ty_35, ty_36, ty_37, ty_38, ty_39, ty_40, ty_41, ty_42, ty_43, ty_44, ty_45, ty_46, ty_47, ty_48, ty_49, ty_50, ty_51, ty_52, ty_53, ty_54, ty_55, ty_56, ty_57, ty_58, ty_59, ty_60, ty_61, ty_62, ty_63, ty_64, ty_65, ty_66, ty_67, ty_68, ty_69, ty_70, ty_71, ty_72, ty_73, ty_74, ty_75, ty_76, ty_77, ty_78, ty_79, ty_80, ty_81, ty_82, ty_83, ty_84, ty_85, ty_86, ty_87, ty_88, ty_89, ty_90, ty_91, ty_92, ty_93, ty_94, ty_95, ty_96, ty_97, ty_98, ty_99, pl_3_10, pl_4_3, pl_5_3, pl_10_9, pl_10_11, pl_10_13, pl_13_1, pl_13_7, pl_16_6, pl_18_6, pl_19_1, pl_27_6, pl_27_11, pl_33_17, pl_35_4, pl_35_6, pl_36_10, pl_37_10, pl_39_3, pl_40_5, pl_40_11, pl_40_16, pl_40_17, pl_40_22, pl_40_23, pl_42_1, pl_42_3, pl_42_5, pl_42_8, pl_43_1, pl_43_3, pl_43_5, pl_43_8, pl_43_10, pl_43_13, pl_43_15, pl_43_18, pl_43_21, pl_46_3, pl_46_5, pl_46_6, pl_48_1, pl_48_2, pl_48_3, pl_52_1, lp, h0, h1, h5, hil, ltI_f] at hx
    exact ⟨_, by rw [← hx]; rfl, by simp [intsF]⟩
  | c :: l, m, i, tm, h, x, hx, hd, hm, hi, h0, h1, h5 => by
    obtain ⟨hlt, hc, hd'⟩ := dcons hd
    cases m with
    | nil => have := dnil hm (by omega); omega
    | cons k m =>
      obtain ⟨_, hk, hm'⟩ := dcons hm
      have hil := ints_len a
      have hic : (ints a)[i]? = some (.int .i64 c) := by unfold ints; rw [List.getElem?_map, hc]; rfl
      have hik : (ints b)[i]? = some (.int .i64 k) := by unfold ints; rw [List.getElem?_map, hk]; rfl
      obtain ⟨R, hR, hx⟩ := loop_step hx
      have hlt' := ltI_t hlt
      have hw := wr_succ (i := i) (by omega)
      cases hb : intBeq c k with
      | false =>
        simp [b16_0, loopOf, Try.f16, loops, cdL_seq, cdL_region, cdL_drawn, cdL_cond, cdL_block, cdL_skip, cdL_label, cdL_exit, cdL_ret, endL, evSeq, evOne, evAct, evOp, opKind, evPure, evRead, evNew, evWrite, evSlice, natOf, optVal, readAt, AV.cells, wantedA, putTm, val, allVals, evBin, evInt, evStr, evAppend, denseFrom, sizesAre, onesIn, evPlan, recheck, AV.beq_refl, H.new, H.put, fillF, fillAt, allOne, AV.one, setArgs, evRes, resOf, ofVal, ofVal0, blt_dec, ble_dec, beq_dec, T.get_set_ite, T.get_e, isShift, ikBeq, ty_0, ty_1, ty_2, ty_3, ty_4, ty_5, ty_6, ty_7, ty_8, ty_9, ty_10, ty_11, ty_12, ty_13, ty_14, ty_15, ty_16, ty_17, ty_18, ty_19, ty_20, ty_21, ty_22, ty_23, ty_24, ty_25, ty_26, ty_27, ty_28, ty_29, ty_30, ty_31, ty_32, ty_33, ty_34, ty_35, ty_36, ty_37, ty_38, ty_39, ty_40, ty_41, ty_42, ty_43, ty_44, ty_45, ty_46, ty_47, ty_48, ty_49, ty_50, ty_51, ty_52, ty_53, ty_54, ty_55, ty_56, ty_57, ty_58, ty_59, ty_60, ty_61, ty_62, ty_63, ty_64, ty_65, ty_66, ty_67, ty_68, ty_69, ty_70, ty_71, ty_72, ty_73, ty_74, ty_75, ty_76, ty_77, ty_78, ty_79, ty_80, ty_81, ty_82, ty_83, ty_84, ty_85, ty_86, ty_87, ty_88, ty_89, ty_90, ty_91, ty_92, ty_93, ty_94, ty_95, ty_96, ty_97, ty_98, ty_99, pl_3_10, pl_4_3, pl_5_3, pl_10_9, pl_10_11, pl_10_13, pl_13_1, pl_13_7, pl_16_6, pl_18_6, pl_19_1, pl_27_6, pl_27_11, pl_33_17, pl_35_4, pl_35_6, pl_36_10, pl_37_10, pl_39_3, pl_40_5, pl_40_11, pl_40_16, pl_40_17, pl_40_22, pl_40_23, pl_42_1, pl_42_3, pl_42_5, pl_42_8, pl_43_1, pl_43_3, pl_43_5, pl_43_8, pl_43_10, pl_43_13, pl_43_15, pl_43_18, pl_43_21, pl_46_3, pl_46_5, pl_46_6, pl_48_1, pl_48_2, pl_48_3, pl_52_1, lp, h0, h1, h5, hlt', hil, hic, hik, hb, hw] at hx
        exact ⟨_, by rw [← hx]; simp [intsF, hb]; rfl, by simp [T.get_set_ite]⟩
      | true =>
        simp [b16_0, loopOf, Try.f16, loops, cdL_seq, cdL_region, cdL_drawn, cdL_cond, cdL_block, cdL_skip, cdL_label, cdL_exit, cdL_ret, endL, evSeq, evOne, evAct, evOp, opKind, evPure, evRead, evNew, evWrite, evSlice, natOf, optVal, readAt, AV.cells, wantedA, putTm, val, allVals, evBin, evInt, evStr, evAppend, denseFrom, sizesAre, onesIn, evPlan, recheck, AV.beq_refl, H.new, H.put, fillF, fillAt, allOne, AV.one, setArgs, evRes, resOf, ofVal, ofVal0, blt_dec, ble_dec, beq_dec, T.get_set_ite, T.get_e, isShift, ikBeq, ty_0, ty_1, ty_2, ty_3, ty_4, ty_5, ty_6, ty_7, ty_8, ty_9, ty_10, ty_11, ty_12, ty_13, ty_14, ty_15, ty_16, ty_17, ty_18, ty_19, ty_20, ty_21, ty_22, ty_23, ty_24, ty_25, ty_26, ty_27, ty_28, ty_29, ty_30, ty_31, ty_32, ty_33, ty_34, ty_35, ty_36, ty_37, ty_38, ty_39, ty_40, ty_41, ty_42, ty_43, ty_44, ty_45, ty_46, ty_47, ty_48, ty_49, ty_50, ty_51, ty_52, ty_53, ty_54, ty_55, ty_56, ty_57, ty_58, ty_59, ty_60, ty_61, ty_62, ty_63, ty_64, ty_65, ty_66, ty_67, ty_68, ty_69, ty_70, ty_71, ty_72, ty_73, ty_74, ty_75, ty_76, ty_77, ty_78, ty_79, ty_80, ty_81, ty_82, ty_83, ty_84, ty_85, ty_86, ty_87, ty_88, ty_89, ty_90, ty_91, ty_92, ty_93, ty_94, ty_95, ty_96, ty_97, ty_98, ty_99, pl_3_10, pl_4_3, pl_5_3, pl_10_9, pl_10_11, pl_10_13, pl_13_1, pl_13_7, pl_16_6, pl_18_6, pl_19_1, pl_27_6, pl_27_11, pl_33_17, pl_35_4, pl_35_6, pl_36_10, pl_37_10, pl_39_3, pl_40_5, pl_40_11, pl_40_16, pl_40_17, pl_40_22, pl_40_23, pl_42_1, pl_42_3, pl_42_5, pl_42_8, pl_43_1, pl_43_3, pl_43_5, pl_43_8, pl_43_10, pl_43_13, pl_43_15, pl_43_18, pl_43_21, pl_46_3, pl_46_5, pl_46_6, pl_48_1, pl_48_2, pl_48_3, pl_52_1, lp, h0, h1, h5, hlt', hil, hic, hik, hb, hw] at hx
        rw [hR] at hx
        have e : intsF (c :: l) (k :: m) = intsF l m := by simp [intsF, hb]
        rw [e]
        exact loop16 hl hab l m (i + 1) hx hd' hm' hlt (by simp [T.get_set_ite, h0]) (by simp [T.get_set_ite, h1]) (by simp [T.get_set_ite])
noncomputable abbrev pInts := primVal (ofRel (Rel2 (fun (a : List Int) (_ : List Int) => a.length ≤ 9223372036854775807) sameI))
theorem pInts_ok : PrimOk Try.prog 16 pInts := prim2_ok env_ok (fn := Try.f16) (by kernel_rfl) body16 (by kernel_rfl) fun a b hl => by
  have h1 := ints_len a
  have h2 := ints_len b
  rw [show (Enc.enc a : AV) = .sl .no (ints a) from rfl, show (Enc.enc b : AV) = .sl .no (ints b) from rfl]
  unfold bodyL
  simp only [codeAt, sub, Try.f16]
  cases hb : intBeq ↑a.length ↑b.length with
  | false => simp [cdL_seq, cdL_region, cdL_drawn, cdL_cond, cdL_block, cdL_skip, cdL_label, cdL_exit, cdL_ret, endL, evSeq, evOne, evAct, evOp, opKind, evPure, evRead, evNew, evWrite, evSlice, natOf, optVal, readAt, AV.cells, wantedA, putTm, val, allVals, evBin, evInt, evStr, evAppend, denseFrom, sizesAre, onesIn, evPlan, recheck, AV.beq_refl, H.new, H.put, fillF, fillAt, allOne, AV.one, setArgs, evRes, resOf, ofVal, ofVal0, blt_dec, ble_dec, beq_dec, T.get_set_ite, T.get_e, isShift, ikBeq, ty_0, ty_1, ty_2, ty_3, ty_4, ty_5, ty_6, ty_7, ty_8, ty_9, ty_10, ty_11, ty_12, ty_13, ty_14, ty_15, ty_16, ty_17, ty_18, ty_19, ty_20, ty_21, ty_22, ty_23, ty_24, ty_25, ty_26, ty_27, ty_28, ty_29, ty_30, ty_31, ty_32, ty_33, ty_34, ty_35, ty_36, ty_37, ty_38, ty_39, ty_40, ty_41, ty_42, ty_43, ty_44, ty_45, ty_46, ty_47, ty_48, ty_49, ty_50, ty_51, ty_52, ty_53, ty_54, ty_55, ty_56, ty_57, ty_58, ty_59, ty_60, ty_61, ty_62, ty_63, ty_64, ty_65, ty_66, ty_67, ty_68, ty_69, ty_70, ty_71, ty_72, ty_73, ty_74, ty_75, ty_76, ty_77, ty_78, ty_79, ty_80, ty_81, ty_82, ty_83, ty_84, ty_85, ty_86, ty_87, ty_88, ty_89, ty_90, ty_91, ty_92, ty_93, ty_94, ty_95, ty_96, ty_97, ty_98, ty_99, pl_3_10, pl_4_3, pl_5_3, pl_10_9, pl_10_11, pl_10_13, pl_13_1, pl_13_7, pl_16_6, pl_18_6, pl_19_1, pl_27_6, pl_27_11, pl_33_17, pl_35_4, pl_35_6, pl_36_10, pl_37_10, pl_39_3, pl_40_5, pl_40_11, pl_40_16, pl_40_17, pl_40_22, pl_40_23, pl_42_1, pl_42_3, pl_42_5, pl_42_8, pl_43_1, pl_43_3, pl_43_5, pl_43_8, pl_43_10, pl_43_13, pl_43_15, pl_43_18, pl_43_21, pl_46_3, pl_46_5, pl_46_6, pl_48_1, pl_48_2, pl_48_3, pl_52_1, h1, h2, hb, Enc.enc, AV.wk, sameI]
  | true =>
    simp [cdL_seq, cdL_region, cdL_drawn, cdL_cond, cdL_block, cdL_skip, cdL_label, cdL_exit, cdL_ret, endL, evSeq, evOne, evAct, evOp, opKind, evPure, evRead, evNew, evWrite, evSlice, natOf, optVal, readAt, AV.cells, wantedA, putTm, val, allVals, evBin, evInt, evStr, evAppend, denseFrom, sizesAre, onesIn, evPlan, recheck, AV.beq_refl, H.new, H.put, fillF, fillAt, allOne, AV.one, setArgs, evRes, resOf, ofVal, ofVal0, blt_dec, ble_dec, beq_dec, T.get_set_ite, T.get_e, isShift, ikBeq, ty_0, ty_1, ty_2, ty_3, ty_4, ty_5, ty_6, ty_7, ty_8, ty_9, ty_10, ty_11, ty_12, ty_13, ty_14, ty_15, ty_16, ty_17, ty_18, ty_19, ty_20, ty_21, ty_22, ty_23, ty_24, ty_25, ty_26, ty_27, ty_28, ty_29, ty_30, ty_31, ty_32, ty_33, ty_34, ty_35, ty_36, ty_37, ty_38, ty_39, ty_40, ty_41, ty_42, ty_43, ty_44, ty_45, ty_46, ty_47, ty_48, ty_49, ty_50, ty_51, ty_52, ty_53, ty_54, ty_55, ty_56, ty_57, ty_58, ty_59, ty_60, ty_61, ty_62, ty_63, ty_64, ty_65, ty_66, ty_67, ty_68, ty_69, ty_70, ty_71, ty_72, ty_73, ty_74, ty_75, ty_76, ty_77, ty_78, ty_79, ty_80, ty_81, ty_82, ty_83, ty_84, ty_85, ty_86, ty_87, ty_88, ty_89, ty_90, ty_91, ty_92, ty_93, ty_94, ty_95, ty_96, ty_97, ty_98, ty_99, pl_3_10, pl_4_3, pl_5_3, pl_10_9, pl_10_11, pl_10_13, pl_13_1, pl_13_7, pl_16_6, pl_18_6, pl_19_1, pl_27_6, pl_27_11, pl_33_17, pl_35_4, pl_35_6, pl_36_10, pl_37_10, pl_39_3, pl_40_5, pl_40_11, pl_40_16, pl_40_17, pl_40_22, pl_40_23, pl_42_1, pl_42_3, pl_42_5, pl_42_8, pl_43_1, pl_43_3, pl_43_5, pl_43_8, pl_43_10, pl_43_13, pl_43_15, pl_43_18, pl_43_21, pl_46_3, pl_46_5, pl_46_6, pl_48_1, pl_48_2, pl_48_3, pl_52_1, h1, h2, hb, Enc.enc, AV.wk, sameI]
    generalize hx : cdL env 16 26 (.loop b16_0) _ _ = x
    obtain ⟨tm', rfl, g⟩ := loop16 hl (by have := intBeq_iff.1 hb; omega) a b 0 hx rfl rfl (Nat.zero_le _) (by simp [T.get_set_ite]) (by simp [T.get_set_ite]) (by simp [T.get_set_ite])
    cases hi : intsF a b with
    | true => simp [cdL_seq, cdL_region, cdL_drawn, cdL_cond, cdL_block, cdL_skip, cdL_label, cdL_exit, cdL_ret, endL, evSeq, evOne, evAct, evOp, opKind, evPure, evRead, evNew, evWrite, evSlice, natOf, optVal, readAt, AV.cells, wantedA, putTm, val, allVals, evBin, evInt, evStr, evAppend, denseFrom, sizesAre, onesIn, evPlan, recheck, AV.beq_refl, H.new, H.put, fillF, fillAt, allOne, AV.one, setArgs, evRes, resOf, ofVal, ofVal0, blt_dec, ble_dec, beq_dec, T.get_set_ite, T.get_e, isShift, ikBeq, ty_0, ty_1, ty_2, ty_3, ty_4, ty_5, ty_6, ty_7, ty_8, ty_9, ty_10, ty_11, ty_12, ty_13, ty_14, ty_15, ty_16, ty_17, ty_18, ty_19, ty_20, ty_21, ty_22, ty_23, ty_24, ty_25, ty_26, ty_27, ty_28, ty_29, ty_30, ty_31, ty_32, ty_33, ty_34, ty_35, ty_36, ty_37, ty_38, ty_39, ty_40, ty_41, ty_42, ty_43, ty_44, ty_45, ty_46, ty_47, ty_48, ty_49, ty_50, ty_51, ty_52, ty_53, ty_54, ty_55, ty_56, ty_57, ty_58, ty_59, ty_60, ty_61, ty_62, ty_63, ty_64, ty_65, ty_66, ty_67, ty_68, ty_69, ty_70, ty_71, ty_72, ty_73, ty_74, ty_75, ty_76, ty_77, ty_78, ty_79, ty_80, ty_81, ty_82, ty_83, ty_84, ty_85, ty_86, ty_87, ty_88, ty_89, ty_90, ty_91, ty_92, ty_93, ty_94, ty_95, ty_96, ty_97, ty_98, ty_99, pl_3_10, pl_4_3, pl_5_3, pl_10_9, pl_10_11, pl_10_13, pl_13_1, pl_13_7, pl_16_6, pl_18_6, pl_19_1, pl_27_6, pl_27_11, pl_33_17, pl_35_4, pl_35_6, pl_36_10, pl_37_10, pl_39_3, pl_40_5, pl_40_11, pl_40_16, pl_40_17, pl_40_22, pl_40_23, pl_42_1, pl_42_3, pl_42_5, pl_42_8, pl_43_1, pl_43_3, pl_43_5, pl_43_8, pl_43_10, pl_43_13, pl_43_15, pl_43_18, pl_43_21, pl_46_3, pl_46_5, pl_46_6, pl_48_1, pl_48_2, pl_48_3, pl_52_1, AV.wk]
    | false => simp [cdL_seq, cdL_region, cdL_drawn, cdL_cond, cdL_block, cdL_skip, cdL_label, cdL_exit, cdL_ret, endL, evSeq, evOne, evAct, evOp, opKind, evPure, evRead, evNew, evWrite, evSlice, natOf, optVal, readAt, AV.cells, wantedA, putTm, val, allVals, evBin, evInt, evStr, evAppend, denseFrom, sizesAre, onesIn, evPlan, recheck, AV.beq_refl, H.new, H.put, fillF, fillAt, allOne, AV.one, setArgs, evRes, resOf, ofVal, ofVal0, blt_dec, ble_dec, beq_dec, T.get_set_ite, T.get_e, isShift, ikBeq, ty_0, ty_1, ty_2, ty_3, ty_4, ty_5, ty_6, ty_7, ty_8, ty_9, ty_10, ty_11, ty_12, ty_13, ty_14, ty_15, ty_16, ty_17, ty_18, ty_19, ty_20, ty_21, ty_22, ty_23, ty_24, ty_25, ty_26, ty_27, ty_28, ty_29, ty_30, ty_31, ty_32, ty_33, ty_34, ty_35, ty_36, ty_37, ty_38, ty_39, ty_40, ty_41, ty_42, ty_43, ty_44, ty_45, ty_46, ty_47, ty_48, ty_49, ty_50, ty_51, ty_52, ty_53, ty_54, ty_55, ty_56, ty_57, ty_58, ty_59, ty_60, ty_61, ty_62, ty_63, ty_64, ty_65, ty_66, ty_67, ty_68, ty_69, ty_70, ty_71, ty_72, ty_73, ty_74, ty_75, ty_76, ty_77, ty_78, ty_79, ty_80, ty_81, ty_82, ty_83, ty_84, ty_85, ty_86, ty_87, ty_88, ty_89, ty_90, ty_91, ty_92, ty_93, ty_94, ty_95, ty_96, ty_97, ty_98, ty_99, pl_3_10, pl_4_3, pl_5_3, pl_10_9, pl_10_11, pl_10_13, pl_13_1, pl_13_7, pl_16_6, pl_18_6, pl_19_1, pl_27_6, pl_27_11, pl_33_17, pl_35_4, pl_35_6, pl_36_10, pl_37_10, pl_39_3, pl_40_5, pl_40_11, pl_40_16, pl_40_17, pl_40_22, pl_40_23, pl_42_1, pl_42_3, pl_42_5, pl_42_8, pl_43_1, pl_43_3, pl_43_5, pl_43_8, pl_43_10, pl_43_13, pl_43_15, pl_43_18, pl_43_21, pl_46_3, pl_46_5, pl_46_6, pl_48_1, pl_48_2, pl_48_3, pl_52_1, g hi, AV.wk]
end Go.Proofs.Ytcmbpfobdgijjaa.Env
/- Bounds; may an env be looked at? -/
set_option autoImplicit false
set_option maxRecDepth 100000
set_option linter.unusedSimpArgs false
set_option linter.unusedVariables false
set_option linter.unusedSectionVars false
namespace Go.Proofs.Ytcmbpfobdgijjaa.Env
open Go.Ev

theorem av_cells (t : Ty) : ∃ o n l, t.av = .agg [.str o, .int .i64 n, .sl .no l] := by cases t; exact ⟨_, _, _, rfl⟩
structure Bd where
  name : List Nat
  vars : List Int
  ty : Ty
def Bd.av (b : Bd) : AV := .agg (.str b.name :: .sl .no (ints b.vars) :: b.ty.av.cells)
def bds (l : List Bd) : List AV := l.map Bd.av
/-- A scheme. -/
def scAV (vars : List Int) (t : Ty) : AV := .agg (.sl .no (ints vars) :: t.av.cells)
def Bd.fit (b : Bd) : Prop := b.vars.length ≤ 9223372036854775807 ∧ Env.fit b.ty
theorem bds_len (l : List Bd) : (bds l).length = l.length := List.length_map ..
theorem bds_get {l : List Bd} {i : Nat} {b : Bd} (h : l[i]? = some b) : (bds l)[i]? = some b.av := by unfold bds; rw [List.getElem?_map, h]; rfl
def mayG : Nat → List Bd → Int → Bool
  | 0, _, _ => true
  | _ + 1, [], _ => true
  | k + 1, b :: l, n => !ltI 100 (n + szF b.ty 100) && (!ltI 20 ↑b.vars.length && (isF b.ty && mayG k l (n + szF b.ty 100)))
def mayF (l : List Bd) : Bool := mayG 20 l 0 && ltI ↑l.length 20
noncomputable def b6_0 : Code := loopOf Try.f6 0
theorem body6 : Try.f6.body = some (.seq (codeAt Try.f6 [0]) (.seq (codeAt Try.f6 [1, 0]) (.seq (.seq (codeAt Try.f6 [1, 1, 0, 0]) (.block 0 (.loop b6_0))) (codeAt Try.f6 [1, 1, 1])))) := rfl
theorem wr_add {a b : Int} (h1 : -1000000 ≤ a + b) (h2 : a + b ≤ 1000000) : wr .i64 (a + b) = a + b := by rw [wr_eq]; exact wrap_i64_in (by omega) (by omega)
theorem loop6 {E : Env} (hty : E.ty = env.ty) (hpl : E.plan = env.plan) (h9 : E.prim 7 = some p9) (h10 : E.prim 8 = some p10) {o : Own} {ps : List Bd} (hl : ps.length ≤ 9223372036854775807) (hf : ∀ p ∈ ps, p.fit) :
    ∀ (k : Nat) (l : List Bd) (i : Nat) (n : Int) {tm : Tm} {h : H} {x : Option (Ex × Tm × H)}, cdL E 6 49 (.loop b6_0) tm h = x → l = ps.drop i → i ≤ ps.length → i + k = 20 → 0 ≤ n → n ≤ 100 →
    tm.get 0 = some (.sl o (bds ps)) → tm.get 2 = some (.bool false) → tm.get 3 = some (.int .i64 n) → tm.get 4 = some (.int .i64 ↑i) →
    ∃ tm', (bif mayG k l n then x = some (.exit 0, tm', h) else x = some (.ret, tm', h)) ∧ tm'.get 0 = some (.sl o (bds ps)) ∧ tm'.get 2 = some (.bool false)
  | 0, l, i, n, tm, h, x, hx, hd, hi, hk, hn0, hn, g0, g2, g3, g4 => by
    obtain rfl : i = 20 := by omega
    have hil := bds_len ps
    obtain ⟨R, hR, hx⟩ := loop_step hx
    simp only [mayG, cond_true]
    cases hc : ltI ↑(20 : Nat) ↑ps.length with
    | true =>
      have e : ltI 20 20 = false := rfl
      simp at hc g4
      simp [b6_0, loopOf, Try.f6, loops, cdL_seq, cdL_region, cdL_drawn, cdL_cond, cdL_block, cdL_skip, cdL_label, cdL_exit, cdL_ret, endL, evSeq, evOne, evAct, evOp, opKind, evPure, evRead, evNew, evWrite, evSlice, natOf, optVal, readAt, AV.cells, wantedA, putTm, val, allVals, evBin, evInt, evStr, evAppend, denseFrom, sizesAre, onesIn, evPlan, recheck, AV.beq_refl, H.new, H.put, fillF, fillAt, allOne, AV.one, setArgs, evRes, resOf, ofVal, ofVal0, blt_dec, ble_dec, beq_dec, T.get_set_ite, T.get_e, isShift, ikBeq, ty_0, ty_1, ty_2, ty_3, ty_4, ty_5, ty_6, ty_7, ty_8, ty_9, ty_10, ty_11, ty_12, ty_13, ty_14, ty_15, ty_16, ty_17, ty_18, ty_19, ty_20, ty_21, ty_22, ty_23, ty_24, ty_25, ty_26, ty_27, ty_28, ty_29, ty_30, ty_31, ty_32, ty_33, ty_34, ty_35, ty_36, ty_37, ty_38, ty_39, ty_40, ty_41, ty_42, ty_43, ty_44, ty_45, ty_46, ty_47, ty_48, ty_49, ty_50, ty_51, ty_52, ty_53, ty_54, ty_55, ty_56, ty_57, ty_58, ty_59, ty_60, ty_61, ty_62, ty_63, ty_64, ty_65, ty_66, ty_67, ty_68, ty_69, ty_70, ty_71, ty_72, ty_73, ty_74, ty_75, ty_76, ty_77, ty_78, ty_79, ty_80, ty_81, ty_82, ty_83, ty_84, ty_85, ty_86, ty_87, ty_88, ty_89, ty_90, ty_91, ty_92, ty_93, ty_94, ty_95, ty_96, ty_97, ty_98, ty_99, pl_3_10, pl_4_3, pl_5_3, pl_10_9, pl_10_11, pl_10_13, pl_13_1, pl_13_7, pl_16_6, pl_18_6, pl_19_1, pl_27_6, pl_27_11, pl_33_17, pl_35_4, pl_35_6, pl_36_10, pl_37_10, pl_39_3, pl_40_5, pl_40_11, pl_40_16, pl_40_17, pl_40_22, pl_40_23, pl_42_1, pl_42_3, pl_42_5, pl_42_8, pl_43_1, pl_43_3, pl_43_5, pl_43_8, pl_43_10, pl_43_13, pl_43_15, pl_43_18, pl_43_21, pl_46_3, pl_46_5, pl_46_6, pl_48_1, pl_48_2, pl_48_3, pl_52_1, lp, hty, hpl, g0, g2, g3, g4, hil, hc, e] at hx
      exact ⟨_, hx.symm, by simp [T.get_set_ite, g0], by simp [T.get_set_ite, g2]⟩
    | false =>
      simp at hc g4
      simp [b6_0, loopOf, Try.f6, loops, cdL_seq, cdL_region, cdL_drawn, cdL_cond, cdL_block, cdL_skip, cdL_label, cdL_exit, cdL_ret, endL, evSeq, evOne, evAct, evOp, opKind, evPure, evRead, evNew, evWrite, evSlice, natOf, optVal, readAt, AV.cells, wantedA, putTm, val, allVals, evBin, evInt, evStr, evAppend, denseFrom, sizesAre, onesIn, evPlan, recheck, AV.beq_refl, H.new, H.put, fillF, fillAt, allOne, AV.one, setArgs, evRes, resOf, ofVal, ofVal0, blt_dec, ble_dec, beq_dec, T.get_set_ite, T.get_e, isShift, ikBeq, ty_0, ty_1, ty_2, ty_3, ty_4, ty_5, ty_6, ty_7, ty_8, ty_9, ty_10, ty_11, ty_12, ty_13, ty_14, ty_15, ty_16, ty_17, ty_18, ty_19, ty_20, ty_21, ty_22, ty_23, ty_24, ty_25, ty_26, ty_27, ty_28, ty_29, ty_30, ty_31, ty_32, ty_33, ty_34, ty_35, ty_36, ty_37, ty_38, ty_39, ty_40, ty_41, ty_42, ty_43, ty_44, ty_45, ty_46, ty_47, ty_48, ty_49, ty_50, ty_51, ty_52, ty_53, ty_54, ty_55, ty_56, ty_57, ty_58, ty_59, ty_60, ty_61, ty_62, ty_63, ty_64, ty_65, ty_66, ty_67, ty_68, ty_69, ty_70, ty_71, ty_72, ty_73, ty_74, ty_75, ty_76, ty_77, ty_78, ty_79, ty_80, ty_81, ty_82, ty_83, ty_84, ty_85, ty_86, ty_87, ty_88, ty_89, ty_90, ty_91, ty_92, ty_93, ty_94, ty_95, ty_96, ty_97, ty_98, ty_99, pl_3_10, pl_4_3, pl_5_3, pl_10_9, pl_10_11, pl_10_13, pl_13_1, pl_13_7, pl_16_6, pl_18_6, pl_19_1, pl_27_6, pl_27_11, pl_33_17, pl_35_4, pl_35_6, pl_36_10, pl_37_10, pl_39_3, pl_40_5, pl_40_11, pl_40_16, pl_40_17, pl_40_22, pl_40_23, pl_42_1, pl_42_3, pl_42_5, pl_42_8, pl_43_1, pl_43_3, pl_43_5, pl_43_8, pl_43_10, pl_43_13, pl_43_15, pl_43_18, pl_43_21, pl_46_3, pl_46_5, pl_46_6, pl_48_1, pl_48_2, pl_48_3, pl_52_1, lp, hty, hpl, g0, g2, g3, g4, hil, hc] at hx
      exact ⟨_, hx.symm, by simp [T.get_set_ite, g0], by simp [T.get_set_ite, g2]⟩
  | k + 1, [], i, n, tm, h, x, hx, hd, hi, hk, hn0, hn, g0, g2, g3, g4 => by
    have hlen := dnil hd hi
    have hil := bds_len ps
    rw [hlen] at hil
    obtain ⟨R, hR, hx⟩ := loop_step hx
    simp [b6_0, loopOf, Try.f6, loops, cdL_seq, cdL_region, cdL_drawn, cdL_cond, cdL_block, cdL_skip, cdL_label, cdL_exit, cdL_ret, endL, evSeq, evOne, evAct, evOp, opKind, evPure, evRead, evNew, evWrite, evSlice, natOf, optVal, readAt, AV.cells, wantedA, putTm, val, allVals, evBin, evInt, evStr, evAppend, denseFrom, sizesAre, onesIn, evPlan, recheck, AV.beq_refl, H.new, H.put, fillF, fillAt, allOne, AV.one, setArgs, evRes, resOf, ofVal, ofVal0, blt_dec, ble_dec, beq_dec, T.get_set_ite, T.get_e, isShift, ikBeq, ty_0, ty_1, ty_2, ty_3, ty_4, ty_5, ty_6, ty_7, ty_8, ty_9, ty_10, ty_11, ty_12, ty_13, ty_14, ty_15, ty_16, ty_17, ty_18, ty_19, ty_20, ty_21, ty_22, ty_23, ty_24, ty_25, ty_26, ty_27, ty_28, ty_29, ty_30, ty_31, ty_32, ty_33, ty_34, ty_35, ty_36, ty_37, ty_38, ty_39, ty_40, ty_41, ty_42, ty_43, ty_44, ty_45, ty_46, ty_47, ty_48, ty_49, ty_50, ty_51, ty_52, ty_53, ty_54, ty_55, ty_56, ty_57, ty_58, ty_59, ty_60, ty_61, ty_62, ty_63, ty_64, ty_65, ty_66, ty_67, ty_68, ty_69, ty_70, ty_71, ty_72, ty_73, ty_74, ty_75, ty_76, ty_77, ty_78, ty_79, ty_80, ty_81, ty_82, ty_83, ty_84, ty_85, ty_86, ty_87, ty_88, ty_89, ty_90, ty_91, ty_92, ty_93, ty_94, ty_95, ty_96, ty_97, ty_98, ty_99, pl_3_10, pl_4_3, pl_5_3, pl_10_9, pl_10_11, pl_10_13, pl_13_1, pl_13_7, pl_16_6, pl_18_6, pl_19_1, pl_27_6, pl_27_11, pl_33_17, pl_35_4, pl_35_6, pl_36_10, pl_37_10, pl_39_3, pl_40_5, pl_40_11, pl_40_16, pl_40_17, pl_40_22, pl_40_23, pl_42_1, pl_42_3, pl_42_5, pl_42_8, pl_43_1, pl_43_3, pl_43_5, pl_43_8, pl_43_10, pl_43_13, pl_43_15, pl_43_18, pl_43_21, pl_46_3, pl_46_5, pl_46_6, pl_48_1, pl_48_2, pl_48_3, pl_52_1, lp, hty, hpl, g0, g2, g3, g4, hil, ltI_f] at hx
    exact ⟨_, by simpa [mayG] using hx.symm, by simp [T.get_set_ite, g0], by simp [T.get_set_ite, g2]⟩
  | k + 1, b :: l, i, n, tm, h, x, hx, hd, hi, hk, hn0, hn, g0, g2, g3, g4 => by
    obtain ⟨hlt, hct, hd'⟩ := dcons hd
    have hil := bds_len ps
    have hat := bds_get hct
    have hlt' := ltI_t hlt
    have hl20 : ltI ↑i 20 = true := ltI_t (b := 20) (by omega)
    have hw := wr_succ (i := i) (by omega)
    have hfab := (hf b (List.mem_of_getElem? hct)).2
    have k9 := fun h => c9 (E := E) h9 b.ty 100 hfab (by omega) h
    have k10 := fun h => prim1_call (E := E) (f := 8) (a := b.ty) (F := isF) (q := fit) h10 (Enc.bare 0 b.ty) hfab h
    have ba := szF_le b.ty 100
    have w1 : wr .i64 (n + szF b.ty 100) = n + szF b.ty 100 := wr_add (by omega) (by omega)
    simp only [show ∀ t : Ty, (Enc.enc t : AV) = t.av from fun _ => rfl, show ∀ b : Bool, (Enc.enc b : AV) = .bool b from fun _ => rfl] at k10
    have hvl := ints_len b.vars
    obtain ⟨a0, a1, a2, ha⟩ := av_cells b.ty
    simp only [Bd.av] at hat
    rw [ha] at hat k9 k10
    simp only [AV.cells] at hat
    obtain ⟨R, hR, hx⟩ := loop_step hx
    simp only [mayG]
    cases e1 : ltI 100 (n + szF b.ty 100) with
    | true =>
      simp [b6_0, loopOf, Try.f6, loops, cdL_seq, cdL_region, cdL_drawn, cdL_cond, cdL_block, cdL_skip, cdL_label, cdL_exit, cdL_ret, endL, evSeq, evOne, evAct, evOp, opKind, evPure, evRead, evNew, evWrite, evSlice, natOf, optVal, readAt, AV.cells, wantedA, putTm, val, allVals, evBin, evInt, evStr, evAppend, denseFrom, sizesAre, onesIn, evPlan, recheck, AV.beq_refl, H.new, H.put, fillF, fillAt, allOne, AV.one, setArgs, evRes, resOf, ofVal, ofVal0, blt_dec, ble_dec, beq_dec, T.get_set_ite, T.get_e, isShift, ikBeq, ty_0, ty_1, ty_2, ty_3, ty_4, ty_5, ty_6, ty_7, ty_8, ty_9, ty_10, ty_11, ty_12, ty_13, ty_14, ty_15, ty_16, ty_17, ty_18, ty_19, ty_20, ty_21, ty_22, ty_23, ty_24, ty_25, ty_26, ty_27, ty_28, ty_29, ty_30, ty_31, ty_32, ty_33, ty_34, ty_35, ty_36, ty_37, ty_38, ty_39, ty_40, ty_41, ty_42, ty_43, ty_44, ty_45, ty_46, ty_47, ty_48, ty_49, ty_50, ty_51, ty_52, ty_53, ty_54, ty_55, ty_56, ty_57, ty_58, ty_59, ty_60, ty_61, ty_62, ty_63, ty_64, ty_65, ty_66, ty_67, ty_68, ty_69, ty_70, ty_71, ty_72, ty_73, ty_74, ty_75, ty_76, ty_77, ty_78, ty_79, ty_80, ty_81, ty_82, ty_83, ty_84, ty_85, ty_86, ty_87, ty_88, ty_89, ty_90, ty_91, ty_92, ty_93, ty_94, ty_95, ty_96, ty_97, ty_98, ty_99, pl_3_10, pl_4_3, pl_5_3, pl_10_9, pl_10_11, pl_10_13, pl_13_1, pl_13_7, pl_16_6, pl_18_6, pl_19_1, pl_27_6, pl_27_11, pl_33_17, pl_35_4, pl_35_6, pl_36_10, pl_37_10, pl_39_3, pl_40_5, pl_40_11, pl_40_16, pl_40_17, pl_40_22, pl_40_23, pl_42_1, pl_42_3, pl_42_5, pl_42_8, pl_43_1, pl_43_3, pl_43_5, pl_43_8, pl_43_10, pl_43_13, pl_43_15, pl_43_18, pl_43_21, pl_46_3, pl_46_5, pl_46_6, pl_48_1, pl_48_2, pl_48_3, pl_52_1, lp, hty, hpl, g0, g2, g3, g4, hil, hlt', hl20, hat, k9, w1, e1] at hx
      exact ⟨_, by simpa using hx.symm, by simp [T.get_set_ite, g0], by simp [T.get_set_ite]⟩
    | false =>
      cases e2 : ltI 20 ↑b.vars.length with
      | true =>
        simp [b6_0, loopOf, Try.f6, loops, cdL_seq, cdL_region, cdL_drawn, cdL_cond, cdL_block, cdL_skip, cdL_label, cdL_exit, cdL_ret, endL, evSeq, evOne, evAct, evOp, opKind, evPure, evRead, evNew, evWrite, evSlice, natOf, optVal, readAt, AV.cells, wantedA, putTm, val, allVals, evBin, evInt, evStr, evAppend, denseFrom, sizesAre, onesIn, evPlan, recheck, AV.beq_refl, H.new, H.put, fillF, fillAt, allOne, AV.one, setArgs, evRes, resOf, ofVal, ofVal0, blt_dec, ble_dec, beq_dec, T.get_set_ite, T.get_e, isShift, ikBeq, ty_0, ty_1, ty_2, ty_3, ty_4, ty_5, ty_6, ty_7, ty_8, ty_9, ty_10, ty_11, ty_12, ty_13, ty_14, ty_15, ty_16, ty_17, ty_18, ty_19, ty_20, ty_21, ty_22, ty_23, ty_24, ty_25, ty_26, ty_27, ty_28, ty_29, ty_30, ty_31, ty_32, ty_33, ty_34, ty_35, ty_36, ty_37, ty_38, ty_39, ty_40, ty_41, ty_42, ty_43, ty_44, ty_45, ty_46, ty_47, ty_48, ty_49, ty_50, ty_51, ty_52, ty_53, ty_54, ty_55, ty_56, ty_57, ty_58, ty_59, ty_60, ty_61, ty_62, ty_63, ty_64, ty_65, ty_66, ty_67, ty_68, ty_69, ty_70, ty_71, ty_72, ty_73, ty_74, ty_75, ty_76, ty_77, ty_78, ty_79, ty_80, ty_81, ty_82, ty_83, ty_84, ty_85, ty_86, ty_87, ty_88, ty_89, ty_90, ty_91, ty_92, ty_93, ty_94, ty_95, ty_96, ty_97, ty_98, ty_99, pl_3_10, pl_4_3, pl_5_3, pl_10_9, pl_10_11, pl_10_13, pl_13_1, pl_13_7, pl_16_6, pl_18_6, pl_19_1, pl_27_6, pl_27_11, pl_33_17, pl_35_4, pl_35_6, pl_36_10, pl_37_10, pl_39_3, pl_40_5, pl_40_11, pl_40_16, pl_40_17, pl_40_22, pl_40_23, pl_42_1, pl_42_3, pl_42_5, pl_42_8, pl_43_1, pl_43_3, pl_43_5, pl_43_8, pl_43_10, pl_43_13, pl_43_15, pl_43_18, pl_43_21, pl_46_3, pl_46_5, pl_46_6, pl_48_1, pl_48_2, pl_48_3, pl_52_1, lp, hty, hpl, g0, g2, g3, g4, hil, hlt', hl20, hat, k9, hvl, w1, e1, e2] at hx
        exact ⟨_, by simpa using hx.symm, by simp [T.get_set_ite, g0], by simp [T.get_set_ite]⟩
      | false =>
        cases e3 : isF b.ty with
        | false =>
          simp [b6_0, loopOf, Try.f6, loops, cdL_seq, cdL_region, cdL_drawn, cdL_cond, cdL_block, cdL_skip, cdL_label, cdL_exit, cdL_ret, endL, evSeq, evOne, evAct, evOp, opKind, evPure, evRead, evNew, evWrite, evSlice, natOf, optVal, readAt, AV.cells, wantedA, putTm, val, allVals, evBin, evInt, evStr, evAppend, denseFrom, sizesAre, onesIn, evPlan, recheck, AV.beq_refl, H.new, H.put, fillF, fillAt, allOne, AV.one, setArgs, evRes, resOf, ofVal, ofVal0, blt_dec, ble_dec, beq_dec, T.get_set_ite, T.get_e, isShift, ikBeq, ty_0, ty_1, ty_2, ty_3, ty_4, ty_5, ty_6, ty_7, ty_8, ty_9, ty_10, ty_11, ty_12, ty_13, ty_14, ty_15, ty_16, ty_17, ty_18, ty_19, ty_20, ty_21, ty_22, ty_23, ty_24, ty_25, ty_26, ty_27, ty_28, ty_29, ty_30, ty_31, ty_32, ty_33, ty_34, ty_35, ty_36, ty_37, ty_38, ty_39, ty_40, ty_41, ty_42, ty_43, ty_44, ty_45, ty_46, ty_47, ty_48, ty_49, ty_50, ty_51, ty_52, ty_53, ty_54, ty_55, ty_56, ty_57, ty_58, ty_59, ty_60, ty_61, ty_62, ty_63, ty_64, ty_65, ty_66, ty_67, ty_68, ty_69, ty_70, ty_71, ty_72, ty_73, ty_74, ty_75, ty_76, ty_77, ty_78, ty_79, ty_80, ty_81, ty_82, ty_83, ty_84, ty_85, ty_86, ty_87, ty_88, ty_89, ty_90, ty_91, ty_92, ty_93, ty_94, ty_95, ty_96, ty_97, ty_98, ty_99, pl_3_10, pl_4_3, pl_5_3, pl_10_9, pl_10_11, pl_10_13, pl_13_1, pl_13_7, pl_16_6, pl_18_6, pl_19_1, pl_27_6, pl_27_11, pl_33_17, pl_35_4, pl_35_6, pl_36_10, pl_37_10, pl_39_3, pl_40_5, pl_40_11, pl_40_16, pl_40_17, pl_40_22, pl_40_23, pl_42_1, pl_42_3, pl_42_5, pl_42_8, pl_43_1, pl_43_3, pl_43_5, pl_43_8, pl_43_10, pl_43_13, pl_43_15, pl_43_18, pl_43_21, pl_46_3, pl_46_5, pl_46_6, pl_48_1, pl_48_2, pl_48_3, pl_52_1, lp, hty, hpl, g0, g2, g3, g4, hil, hlt', hl20, hat, k9, k10, hvl, w1, e1, e2, e3] at hx
          exact ⟨_, by simpa using hx.symm, by simp [T.get_set_ite, g0], by simp [T.get_set_ite]⟩
        | true =>
          simp [b6_0, loopOf, Try.f6, loops, cdL_seq, cdL_region, cdL_drawn, cdL_cond, cdL_block, cdL_skip, cdL_label, cdL_exit, cdL_ret, endL, evSeq, evOne, evAct, evOp, opKind, evPure, evRead, evNew, evWrite, evSlice, natOf, optVal, readAt, AV.cells, wantedA, putTm, val, allVals, evBin, evInt, evStr, evAppend, denseFrom, sizesAre, onesIn, evPlan, recheck, AV.beq_refl, H.new, H.put, fillF, fillAt, allOne, AV.one, setArgs, evRes, resOf, ofVal, ofVal0, blt_dec, ble_dec, beq_dec, T.get_set_ite, T.get_e, isShift, ikBeq, ty_0, ty_1, ty_2, ty_3, ty_4, ty_5, ty_6, ty_7, ty_8, ty_9, ty_10, ty_11, ty_12, ty_13, ty_14, ty_15, ty_16, ty_17, ty_18, ty_19, ty_20, ty_21, ty_22, ty_23, ty_24, ty_25, ty_26, ty_27, ty_28, ty_29, ty_30, ty_31, ty_32, ty_33, ty_34, ty_35, ty_36, ty_37, ty_38, ty_39, ty_40, ty_41, ty_42, ty_43, ty_44, ty_45, ty_46, ty_47, ty_48, ty_49, ty_50, ty_51, ty_52, ty_53, ty_54, ty_55, ty_56, ty_57, ty_58, ty_59, ty_60, ty_61, ty_62, ty_63, ty_64, ty_65, ty_66, ty_67, ty_68, ty_69, ty_70, ty_71, ty_72, ty_73, ty_74, ty_75, ty_76, ty_77, ty_78, ty_79, ty_80, ty_81, ty_82, ty_83, ty_84, ty_85, ty_86, ty_87, ty_88, ty_89, ty_90, ty_91, ty_92, ty_93, ty_94, ty_95, ty_96, ty_97, ty_98, ty_99, pl_3_10, pl_4_3, pl_5_3, pl_10_9, pl_10_11, pl_10_13, pl_13_1, pl_13_7, pl_16_6, pl_18_6, pl_19_1, pl_27_6, pl_27_11, pl_33_17, pl_35_4, pl_35_6, pl_36_10, pl_37_10, pl_39_3, pl_40_5, pl_40_11, pl_40_16, pl_40_17, pl_40_22, pl_40_23, pl_42_1, pl_42_3, pl_42_5, pl_42_8, pl_43_1, pl_43_3, pl_43_5, pl_43_8, pl_43_10, pl_43_13, pl_43_15, pl_43_18, pl_43_21, pl_46_3, pl_46_5, pl_46_6, pl_48_1, pl_48_2, pl_48_3, pl_52_1, lp, hty, hpl, g0, g2, g3, g4, hil, hlt', hl20, hat, k9, k10, hvl, w1, e1, e2, e3, hw] at hx
          rw [hR] at hx
          have hn' : n + szF b.ty 100 ≤ 100 := by rw [ltI_eq] at e1; simpa using e1
          simp only [Bool.not_false, Bool.true_and]
          exact loop6 hty hpl h9 h10 hl hf k l (i + 1) (n + szF b.ty 100) hx hd' hlt (by omega) (by omega) hn' (by simp [T.get_set_ite, g0]) (by simp [T.get_set_ite, g2]) (by simp [T.get_set_ite]) (by simp [T.get_set_ite])
theorem may_run {E : Env} (hty : E.ty = env.ty) (hpl : E.plan = env.plan) (hp : E.prim 6 = none) (hfn : E.fns 6 = some Try.f6) (h9 : E.prim 7 = some p9) (h10 : E.prim 8 = some p10) {o : Own} {ps : List Bd} (hl : ps.length ≤ 9223372036854775807) (hf : ∀ p ∈ ps, p.fit) (h : H) :
    evL E 6 [.sl o (bds ps)] h = some (.bool (mayF ps), h) := by
  have hil := bds_len ps
  rw [evL_fn E hp hfn body6 _ _ rfl]
  simp only [codeAt, sub, Try.f6]
  simp [cdL_seq, cdL_region, cdL_drawn, cdL_cond, cdL_block, cdL_skip, cdL_label, cdL_exit, cdL_ret, endL, evSeq, evOne, evAct, evOp, opKind, evPure, evRead, evNew, evWrite, evSlice, natOf, optVal, readAt, AV.cells, wantedA, putTm, val, allVals, evBin, evInt, evStr, evAppend, denseFrom, sizesAre, onesIn, evPlan, recheck, AV.beq_refl, H.new, H.put, fillF, fillAt, allOne, AV.one, setArgs, evRes, resOf, ofVal, ofVal0, blt_dec, ble_dec, beq_dec, T.get_set_ite, T.get_e, isShift, ikBeq, ty_0, ty_1, ty_2, ty_3, ty_4, ty_5, ty_6, ty_7, ty_8, ty_9, ty_10, ty_11, ty_12, ty_13, ty_14, ty_15, ty_16, ty_17, ty_18, ty_19, ty_20, ty_21, ty_22, ty_23, ty_24, ty_25, ty_26, ty_27, ty_28, ty_29, ty_30, ty_31, ty_32, ty_33, ty_34, ty_35, ty_36, ty_37, ty_38, ty_39, ty_40, ty_41, ty_42, ty_43, ty_44, ty_45, ty_46, ty_47, ty_48, ty_49, ty_50, ty_51, ty_52, ty_53, ty_54, ty_55, ty_56, ty_57, ty_58, ty_59, ty_60, ty_61, ty_62, ty_63, ty_64, ty_65, ty_66, ty_67, ty_68, ty_69, ty_70, ty_71, ty_72, ty_73, ty_74, ty_75, ty_76, ty_77, ty_78, ty_79, ty_80, ty_81, ty_82, ty_83, ty_84, ty_85, ty_86, ty_87, ty_88, ty_89, ty_90, ty_91, ty_92, ty_93, ty_94, ty_95, ty_96, ty_97, ty_98, ty_99, pl_3_10, pl_4_3, pl_5_3, pl_10_9, pl_10_11, pl_10_13, pl_13_1, pl_13_7, pl_16_6, pl_18_6, pl_19_1, pl_27_6, pl_27_11, pl_33_17, pl_35_4, pl_35_6, pl_36_10, pl_37_10, pl_39_3, pl_40_5, pl_40_11, pl_40_16, pl_40_17, pl_40_22, pl_40_23, pl_42_1, pl_42_3, pl_42_5, pl_42_8, pl_43_1, pl_43_3, pl_43_5, pl_43_8, pl_43_10, pl_43_13, pl_43_15, pl_43_18, pl_43_21, pl_46_3, pl_46_5, pl_46_6, pl_48_1, pl_48_2, pl_48_3, pl_52_1, hty, hpl]
  generalize hx : cdL E 6 49 (.loop b6_0) _ _ = x
  obtain ⟨tm', res, g0, g2⟩ := loop6 (o := o) hty hpl h9 h10 hl hf 20 ps 0 0 hx rfl (Nat.zero_le _) rfl (by omega) (by omega) (by simp [T.get_set_ite]) (by simp [T.get_set_ite]) (by simp [T.get_set_ite]) (by simp [T.get_set_ite])
  unfold mayF
  cases hm : mayG 20 ps 0 with
  | true =>
    rw [hm] at res
    simp only [cond_true] at res
    subst res
    simp [cdL_seq, cdL_region, cdL_drawn, cdL_cond, cdL_block, cdL_skip, cdL_label, cdL_exit, cdL_ret, endL, evSeq, evOne, evAct, evOp, opKind, evPure, evRead, evNew, evWrite, evSlice, natOf, optVal, readAt, AV.cells, wantedA, putTm, val, allVals, evBin, evInt, evStr, evAppend, denseFrom, sizesAre, onesIn, evPlan, recheck, AV.beq_refl, H.new, H.put, fillF, fillAt, allOne, AV.one, setArgs, evRes, resOf, ofVal, ofVal0, blt_dec, ble_dec, beq_dec, T.get_set_ite, T.get_e, isShift, ikBeq, ty_0, ty_1, ty_2, ty_3, ty_4, ty_5, ty_6, ty_7, ty_8, ty_9, ty_10, ty_11, ty_12, ty_13, ty_14, ty_15, ty_16, ty_17, ty_18, ty_19, ty_20, ty_21, ty_22, ty_23, ty_24, ty_25, ty_26, ty_27, ty_28, ty_29, ty_30, ty_31, ty_32, ty_33, ty_34, ty_35, ty_36, ty_37, ty_38, ty_39, ty_40, ty_41, ty_42, ty_43, ty_44, ty_45, ty_46, ty_47, ty_48, ty_49, ty_50, ty_51, ty_52, ty_53, ty_54, ty_55, ty_56, ty_57, ty_58, ty_59, ty_60, ty_61, ty_62, ty_63, ty_64, ty_65, ty_66, ty_67, ty_68, ty_69, ty_70, ty_71, ty_72, ty_73, ty_74, ty_75, ty_76, ty_77, ty_78, ty_79, ty_80, ty_81, ty_82, ty_83, ty_84, ty_85, ty_86, ty_87, ty_88, ty_89, ty_90, ty_91, ty_92, ty_93, ty_94, ty_95, ty_96, ty_97, ty_98, ty_99, pl_3_10, pl_4_3, pl_5_3, pl_10_9, pl_10_11, pl_10_13, pl_13_1, pl_13_7, pl_16_6, pl_18_6, pl_19_1, pl_27_6, pl_27_11, pl_33_17, pl_35_4, pl_35_6, pl_36_10, pl_37_10, pl_39_3, pl_40_5, pl_40_11, pl_40_16, pl_40_17, pl_40_22, pl_40_23, pl_42_1, pl_42_3, pl_42_5, pl_42_8, pl_43_1, pl_43_3, pl_43_5, pl_43_8, pl_43_10, pl_43_13, pl_43_15, pl_43_18, pl_43_21, pl_46_3, pl_46_5, pl_46_6, pl_48_1, pl_48_2, pl_48_3, pl_52_1, hty, hpl, g0, g2, hil]
  | false =>
    rw [hm] at res
    simp only [cond_false] at res
    subst res
    simp [cdL_seq, cdL_region, cdL_drawn, cdL_cond, cdL_block, cdL_skip, cdL_label, cdL_exit, cdL_ret, endL, evSeq, evOne, evAct, evOp, opKind, evPure, evRead, evNew, evWrite, evSlice, natOf, optVal, readAt, AV.cells, wantedA, putTm, val, allVals, evBin, evInt, evStr, evAppend, denseFrom, sizesAre, onesIn, evPlan, recheck, AV.beq_refl, H.new, H.put, fillF, fillAt, allOne, AV.one, setArgs, evRes, resOf, ofVal, ofVal0, blt_dec, ble_dec, beq_dec, T.get_set_ite, T.get_e, isShift, ikBeq, ty_0, ty_1, ty_2, ty_3, ty_4, ty_5, ty_6, ty_7, ty_8, ty_9, ty_10, ty_11, ty_12, ty_13, ty_14, ty_15, ty_16, ty_17, ty_18, ty_19, ty_20, ty_21, ty_22, ty_23, ty_24, ty_25, ty_26, ty_27, ty_28, ty_29, ty_30, ty_31, ty_32, ty_33, ty_34, ty_35, ty_36, ty_37, ty_38, ty_39, ty_40, ty_41, ty_42, ty_43, ty_44, ty_45, ty_46, ty_47, ty_48, ty_49, ty_50, ty_51, ty_52, ty_53, ty_54, ty_55, ty_56, ty_57, ty_58, ty_59, ty_60, ty_61, ty_62, ty_63, ty_64, ty_65, ty_66, ty_67, ty_68, ty_69, ty_70, ty_71, ty_72, ty_73, ty_74, ty_75, ty_76, ty_77, ty_78, ty_79, ty_80, ty_81, ty_82, ty_83, ty_84, ty_85, ty_86, ty_87, ty_88, ty_89, ty_90, ty_91, ty_92, ty_93, ty_94, ty_95, ty_96, ty_97, ty_98, ty_99, pl_3_10, pl_4_3, pl_5_3, pl_10_9, pl_10_11, pl_10_13, pl_13_1, pl_13_7, pl_16_6, pl_18_6, pl_19_1, pl_27_6, pl_27_11, pl_33_17, pl_35_4, pl_35_6, pl_36_10, pl_37_10, pl_39_3, pl_40_5, pl_40_11, pl_40_16, pl_40_17, pl_40_22, pl_40_23, pl_42_1, pl_42_3, pl_42_5, pl_42_8, pl_43_1, pl_43_3, pl_43_5, pl_43_8, pl_43_10, pl_43_13, pl_43_15, pl_43_18, pl_43_21, pl_46_3, pl_46_5, pl_46_6, pl_48_1, pl_48_2, pl_48_3, pl_52_1, hty, hpl, g0, g2, hil]
end Go.Proofs.Ytcmbpfobdgijjaa.Env
/- The program's own Vars. -/
set_option autoImplicit false
set_option maxRecDepth 100000
set_option linter.unusedSimpArgs false
set_option linter.unusedVariables false
set_option linter.unusedSectionVars false
namespace Go.Proofs.Ytcmbpfobdgijjaa.Env
open Go.Ev

mutual
theorem varsF_ge : ∀ (t : Ty) (out : List Int), out.length ≤ (varsF t out).length
  | .mk o n ks, out => by
    simp only [varsF]
    have := varsL_ge ks (bif natsBeq o varS && !hasI out n then out ++ [n] else out)
    cases hb : (natsBeq o varS && !hasI out n) <;> rw [hb] at this <;> simp at this ⊢ <;> omega
theorem varsL_ge : ∀ (l : List Ty) (out : List Int), out.length ≤ (varsL l out).length
  | [], out => Nat.le_refl _
  | t :: l, out => by
    simp only [varsL]
    have h1 := varsF_ge t out
    have h2 := varsL_ge l (varsF t out)
    omega
end
noncomputable def b29_0 : Code := loopOf Try.f29 0
theorem body29 : Try.f29.body = some (.seq (codeAt Try.f29 [0]) (.seq (codeAt Try.f29 [1, 0]) (.seq (.seq (codeAt Try.f29 [1, 1, 0, 0]) (.block 0 (.loop b29_0))) (codeAt Try.f29 [1, 1, 1])))) := rfl
def Adds29 (E : Env) (d : Nat) : Prop := ∀ (t : Ty) (o : Own) (L : List Int) (h : H), dep t ≤ d → fit t → RowE 3 1 h o (ints L) → (varsF t L).length ≤ 1000000 →
  ∃ o' h', evL E 29 [.sl o (ints L), t.av] h = some (.sl o' (ints (varsF t L)), h') ∧ RowE 3 1 h' o' (ints (varsF t L)) ∧ NewO h o o' ∧ h.nx ≤ h'.nx ∧ ∀ j, j < h.nx → o ≠ .ch j → h'.t.get j = h.t.get j
theorem loop29 {E : Env} (hty : E.ty = env.ty) (hpl : E.plan = env.plan) {a : List Nat} {n : Int} {ks : List Ty} {d : Nat} (hl : ks.length ≤ 9223372036854775807) (hf : fits ks) (hd : deps ks ≤ d) (hc : Adds29 E d) :
    ∀ (l : List Ty) (i : Nat) (o : Own) (L : List Int) {tm : Tm} {h : H} {x : Option (Ex × Tm × H)}, cdL E 29 34 (.loop b29_0) tm h = x → l = ks.drop i → i ≤ ks.length → RowE 3 1 h o (ints L) → (varsL l L).length ≤ 1000000 →
    tm.get 0 = some (.sl o (ints L)) → tm.get 23 = some (.sl .no (Ty.avs ks)) → tm.get 24 = some (.int .i64 ↑ks.length) → tm.get 25 = some (.int .i64 ↑i) →
    ∃ tm' h' o', x = some (.exit 0, tm', h') ∧ tm'.get 0 = some (.sl o' (ints (varsL l L))) ∧ RowE 3 1 h' o' (ints (varsL l L)) ∧ NewO h o o' ∧ h.nx ≤ h'.nx ∧ ∀ j, j < h.nx → o ≠ .ch j → h'.t.get j = h.t.get j
  | [], i, o, L, tm, h, x, hx, hd, hi, hr, hlen, h0, h23, h24, h25 => by
    have hlen := dnil hd hi
    obtain ⟨R, hR, hx⟩ := loop_step hx
    simp [b29_0, loopOf, Try.f29, loops, cdL_seq, cdL_region, cdL_drawn, cdL_cond, cdL_block, cdL_skip, cdL_label, cdL_exit, cdL_ret, endL, evSeq, evOne, evAct, evOp, opKind, evPure, evRead, evNew, evWrite, evSlice, natOf, optVal, readAt, AV.cells, wantedA, putTm, val, allVals, evBin, evInt, evStr, evAppend, denseFrom, sizesAre, onesIn, evPlan, recheck, AV.beq_refl, H.new, H.put, fillF, fillAt, allOne, AV.one, setArgs, evRes, resOf, ofVal, ofVal0, blt_dec, ble_dec, beq_dec, T.get_set_ite, T.get_e, isShift, ikBeq, ty_0, ty_1, ty_2, ty_3, ty_4, ty_5, ty_6, ty_7, ty_8, ty_9, ty_10, ty_11, ty_12, ty_13, ty_14, ty_15, ty_16, ty_17, ty_18, ty_19, ty_20, ty_21, ty_22, ty_23, ty_24, ty_25, ty_26, ty_27, ty_28, ty_29, ty_30, ty_31, ty_32, ty_33, ty_34, ty_35, ty_36, ty_37, ty_38, ty_39, ty_40, ty_41, ty_42, ty_43, ty_44, ty_45, ty_46, ty_47, ty_48, ty_49, ty_50, ty_51, ty_52, ty_53, ty_54, ty_55, ty_56, ty_57, ty_58, ty_59, ty_60, ty_61, ty_62, ty_63, ty_64, ty_65, ty_66, ty_67, ty_68, ty_69, ty_70, ty_71, ty_72, ty_73, ty_74, ty_75, ty_76, ty_77, ty_78, ty_79, ty_80, ty_81, ty_82, ty_83, ty_84, ty_85, ty_86, ty_87, ty_88, ty_89, ty_90, ty_91, ty_92, ty_93, ty_94, ty_95, ty_96, ty_97, ty_98, ty_99, pl_3_10, pl_4_3, pl_5_3, pl_10_9, pl_10_11, pl_10_13, pl_13_1, pl_13_7, pl_16_6, pl_18_6, pl_19_1, pl_27_6, pl_27_11, pl_33_17, pl_35_4, pl_35_6, pl_36_10, pl_37_10, pl_39_3, pl_40_5, pl_40_11, pl_40_16, pl_40_17, pl_40_22, pl_40_23, pl_42_1, pl_42_3, pl_42_5, pl_42_8, pl_43_1, pl_43_3, pl_43_5, pl_43_8, pl_43_10, pl_43_13, pl_43_15, pl_43_18, pl_43_21, pl_46_3, pl_46_5, pl_46_6, pl_48_1, pl_48_2, pl_48_3, pl_52_1, lp, hty, hpl, h0, h23, h24, h25, hlen, ltI_f] at hx
    exact ⟨_, h, o, by rw [← hx], by simp [T.get_set_ite, h0, varsL], hr, .inl rfl, Nat.le_refl _, fun _ _ _ => rfl⟩
  | t :: l, i, o, L, tm, h, x, hx, hdr, hi, hr, hlen, h0, h23, h24, h25 => by
    obtain ⟨hlt, hct, hd'⟩ := dcons hdr
    have hat := avs_get hct
    have htm := List.mem_of_getElem? hct
    obtain ⟨R, hR, hx⟩ := loop_step hx
    have hlt' := ltI_t hlt
    have hw := wr_succ (i := i) (by omega)
    simp only [varsL] at hlen
    have hge := varsL_ge l (varsF t L)
    have hge0 := varsF_ge t L
    obtain ⟨a0, a1, a2, ha⟩ := av_cells t
    have hN : ∀ j, j < h.nx → ((h.t.set h.nx (.cells [.str [], .int .i64 0, .sl .full []])).set h.nx (.cells [.str a0, .int .i64 a1, .sl .no a2])).get j = h.t.get j := fun j hj => by simp only [T.get_set_ite]; rw [if_neg (by omega), if_neg (by omega)]
    obtain ⟨o1, h1', e1, r1, w1, n1, f1⟩ := hc t o L ⟨(h.t.set h.nx (.cells [.str [], .int .i64 0, .sl .full []])).set h.nx (.cells [.str a0, .int .i64 a1, .sl .no a2]), h.nx + 1⟩ (Nat.le_trans (dep_mem htm) hd) (fits_mem.1 hf t htm) (by
      rcases hr with e | ⟨id, e, hg, hi⟩
      · exact .inl e
      · exact .inr ⟨id, e, by rw [hN id hi]; exact hg, by simp; omega⟩) (by omega)
    rw [ha] at hat e1
    simp [b29_0, loopOf, Try.f29, loops, cdL_seq, cdL_region, cdL_drawn, cdL_cond, cdL_block, cdL_skip, cdL_label, cdL_exit, cdL_ret, endL, evSeq, evOne, evAct, evOp, opKind, evPure, evRead, evNew, evWrite, evSlice, natOf, optVal, readAt, AV.cells, wantedA, putTm, val, allVals, evBin, evInt, evStr, evAppend, denseFrom, sizesAre, onesIn, evPlan, recheck, AV.beq_refl, H.new, H.put, fillF, fillAt, allOne, AV.one, setArgs, evRes, resOf, ofVal, ofVal0, blt_dec, ble_dec, beq_dec, T.get_set_ite, T.get_e, isShift, ikBeq, ty_0, ty_1, ty_2, ty_3, ty_4, ty_5, ty_6, ty_7, ty_8, ty_9, ty_10, ty_11, ty_12, ty_13, ty_14, ty_15, ty_16, ty_17, ty_18, ty_19, ty_20, ty_21, ty_22, ty_23, ty_24, ty_25, ty_26, ty_27, ty_28, ty_29, ty_30, ty_31, ty_32, ty_33, ty_34, ty_35, ty_36, ty_37, ty_38, ty_39, ty_40, ty_41, ty_42, ty_43, ty_44, ty_45, ty_46, ty_47, ty_48, ty_49, ty_50, ty_51, ty_52, ty_53, ty_54, ty_55, ty_56, ty_57, ty_58, ty_59, ty_60, ty_61, ty_62, ty_63, ty_64, ty_65, ty_66, ty_67, ty_68, ty_69, ty_70, ty_71, ty_72, ty_73, ty_74, ty_75, ty_76, ty_77, ty_78, ty_79, ty_80, ty_81, ty_82, ty_83, ty_84, ty_85, ty_86, ty_87, ty_88, ty_89, ty_90, ty_91, ty_92, ty_93, ty_94, ty_95, ty_96, ty_97, ty_98, ty_99, pl_3_10, pl_4_3, pl_5_3, pl_10_9, pl_10_11, pl_10_13, pl_13_1, pl_13_7, pl_16_6, pl_18_6, pl_19_1, pl_27_6, pl_27_11, pl_33_17, pl_35_4, pl_35_6, pl_36_10, pl_37_10, pl_39_3, pl_40_5, pl_40_11, pl_40_16, pl_40_17, pl_40_22, pl_40_23, pl_42_1, pl_42_3, pl_42_5, pl_42_8, pl_43_1, pl_43_3, pl_43_5, pl_43_8, pl_43_10, pl_43_13, pl_43_15, pl_43_18, pl_43_21, pl_46_3, pl_46_5, pl_46_6, pl_48_1, pl_48_2, pl_48_3, pl_52_1, lp, hty, hpl, h0, h23, h24, h25, hlt', hat, hw, e1] at hx
    rw [hR] at hx
    simp only at n1 f1
    obtain ⟨tm', h2', o2, g0, g1, g2, gw, g3, g4⟩ := loop29 hty hpl (a := a) (n := n) hl hf hd hc l (i + 1) o1 (varsF t L) hx hd' hlt r1 hlen (by simp [T.get_set_ite]) (by simp [T.get_set_ite, h23]) (by simp [T.get_set_ite, h24]) (by simp [T.get_set_ite])
    refine ⟨tm', h2', o2, g0, g1, g2, ?_, by omega, fun j hj ho => ?_⟩
    · rcases gw with rfl | ⟨id, rfl, hid⟩
      · rcases w1 with e | ⟨id, e, hid⟩
        · exact .inl e
        · exact .inr ⟨id, e, by simp at hid; omega⟩
      · exact .inr ⟨id, rfl, by omega⟩
    · rw [g4 j (by omega) ?_, f1 j (by omega) ho, hN j hj]
      rintro rfl
      rcases w1 with e | ⟨id, e, hid⟩
      · exact ho e.symm
      · cases e; simp at hid; omega
theorem adds_run {E : Env} (hty : E.ty = env.ty) (hpl : E.plan = env.plan) (hp : E.prim 29 = none) (hfn : E.fns 29 = some Try.f29) (h21 : E.prim 21 = some pCont) : ∀ d, Adds29 E d
  | 0 => fun t o L h hd => by have := dep_pos t; omega
  | d + 1 => fun t o L h hd hf hr hlen => by
    have hc := adds_run hty hpl hp hfn h21 d
    have hge0 := varsF_ge t L
    obtain ⟨a, n, ks⟩ := t
    simp only [dep] at hd
    simp only [fit] at hf
    have hhas : ∀ h, evL E 21 [.sl o (ints L), .int .i64 n] h = some (.bool (hasI L n), h) := fun h => cCont h21 o L n (by omega) h
    have hil := ints_len L
    have his := ints_sizes L
    have hkl := avs_len ks
    have hby : (L.length + 1) * 8 ≤ 140737488355328 := by omega
    have hv : natsBeq a varS = natsBeq a [118, 97, 114] := rfl
    have eF : varsF (.mk a n ks) L = varsL ks (bif natsBeq a [118, 97, 114] && !hasI L n then L ++ [n] else L) := by rw [varsF, hv]
    rw [eF] at hlen
    rw [evL_fn E hp hfn body29 _ _ rfl, eF]
    have rest : ∀ (o1 : Own) (L1 : List Int) (tm1 : Tm) (h1 : H) (x : Option (Ex × Tm × H)), cdL E 29 34 (.loop b29_0) tm1 h1 = x → RowE 3 1 h1 o1 (ints L1) → (varsL ks L1).length ≤ 1000000 → tm1.get 0 = some (.sl o1 (ints L1)) → tm1.get 23 = some (.sl .no (Ty.avs ks)) → tm1.get 24 = some (.int .i64 ↑ks.length) → tm1.get 25 = some (.int .i64 0) →
        h.nx ≤ h1.nx → NewO h o o1 → (∀ j, j < h.nx → o ≠ .ch j → h1.t.get j = h.t.get j) →
        ∃ tm' h' o', x = some (.exit 0, tm', h') ∧ tm'.get 0 = some (.sl o' (ints (varsL ks L1))) ∧ RowE 3 1 h' o' (ints (varsL ks L1)) ∧ NewO h o o' ∧ h.nx ≤ h'.nx ∧ ∀ j, j < h.nx → o ≠ .ch j → h'.t.get j = h.t.get j := by
      intro o1 L1 tm1 h1 x hx r1 l1 g0 g23 g24 g25 gn gw gf
      obtain ⟨tm', h', o', e1, e2, e3, e4, e5, e6⟩ := loop29 hty hpl (a := a) (n := n) (ks := ks) (d := d) hf.1 hf.2.2 (by omega) hc ks 0 o1 L1 hx rfl (Nat.zero_le _) r1 l1 g0 g23 g24 (by simpa using g25)
      refine ⟨tm', h', o', e1, e2, e3, ?_, by omega, fun j hj ho => ?_⟩
      · rcases e4 with rfl | ⟨id, rfl, hid⟩
        · exact gw
        · exact .inr ⟨id, rfl, by omega⟩
      · rw [e6 j (by omega) ?_, gf j hj ho]
        rintro rfl
        rcases gw with e | ⟨id, e, hid⟩
        · exact ho e.symm
        · cases e; omega
    have hrN : ∀ h2 : H, h2.nx = h.nx + 1 → (∀ j, j < h.nx → h2.t.get j = h.t.get j) → RowE 3 1 h2 o (ints L) := fun h2 q1 q2 => by
      rcases hr with e | ⟨id, e, hg, hi⟩
      · exact .inl e
      · exact .inr ⟨id, e, by rw [q2 id hi]; exact hg, by omega⟩
    simp only [codeAt, sub, Try.f29]
    cases h1 : natsBeq a [118, 97, 114] with
    | false =>
      simp [cdL_seq, cdL_region, cdL_drawn, cdL_cond, cdL_block, cdL_skip, cdL_label, cdL_exit, cdL_ret, endL, evSeq, evOne, evAct, evOp, opKind, evPure, evRead, evNew, evWrite, evSlice, natOf, optVal, readAt, AV.cells, wantedA, putTm, val, allVals, evBin, evInt, evStr, evAppend, denseFrom, sizesAre, onesIn, evPlan, recheck, AV.beq_refl, H.new, H.put, fillF, fillAt, allOne, AV.one, setArgs, evRes, resOf, ofVal, ofVal0, blt_dec, ble_dec, beq_dec, T.get_set_ite, T.get_e, isShift, ikBeq, ty_0, ty_1, ty_2, ty_3, ty_4, ty_5, ty_6, ty_7, ty_8, ty_9, ty_10, ty_11, ty_12, ty_13, ty_14, ty_15, ty_16, ty_17, ty_18, ty_19, ty_20, ty_21, ty_22, ty_23, ty_24, ty_25, ty_26, ty_27, ty_28, ty_29, ty_30, ty_31, ty_32, ty_33, ty_34, ty_35, ty_36, ty_37, ty_38, ty_39, ty_40, ty_41, ty_42, ty_43, ty_44, ty_45, ty_46, ty_47, ty_48, ty_49, ty_50, ty_51, ty_52, ty_53, ty_54, ty_55, ty_56, ty_57, ty_58, ty_59, ty_60, ty_61, ty_62, ty_63, ty_64, ty_65, ty_66, ty_67, ty_68, ty_69, ty_70, ty_71, ty_72, ty_73, ty_74, ty_75, ty_76, ty_77, ty_78, ty_79, ty_80, ty_81, ty_82, ty_83, ty_84, ty_85, ty_86, ty_87, ty_88, ty_89, ty_90, ty_91, ty_92, ty_93, ty_94, ty_95, ty_96, ty_97, ty_98, ty_99, pl_3_10, pl_4_3, pl_5_3, pl_10_9, pl_10_11, pl_10_13, pl_13_1, pl_13_7, pl_16_6, pl_18_6, pl_19_1, pl_27_6, pl_27_11, pl_33_17, pl_35_4, pl_35_6, pl_36_10, pl_37_10, pl_39_3, pl_40_5, pl_40_11, pl_40_16, pl_40_17, pl_40_22, pl_40_23, pl_42_1, pl_42_3, pl_42_5, pl_42_8, pl_43_1, pl_43_3, pl_43_5, pl_43_8, pl_43_10, pl_43_13, pl_43_15, pl_43_18, pl_43_21, pl_46_3, pl_46_5, pl_46_6, pl_48_1, pl_48_2, pl_48_3, pl_52_1, hty, hpl, Ty.av, hhas, h1, hkl, bytesOf]
      generalize hx : cdL E 29 34 (.loop b29_0) _ _ = x
      obtain ⟨tm', h', o', rfl, q1, q2, q3, q4, q5⟩ := rest o L _ _ x hx (hrN _ rfl fun j hj => by simp only [T.get_set_ite]; rw [if_neg (by omega)]) (by simpa [h1] using hlen) (by simp [T.get_set_ite]) (by simp [T.get_set_ite]) (by simp [T.get_set_ite]) (by simp [T.get_set_ite]) (by simp) (.inl rfl) (fun j hj ho => by simp [T.get_set_ite]; omega)
      simp [cdL_seq, cdL_region, cdL_drawn, cdL_cond, cdL_block, cdL_skip, cdL_label, cdL_exit, cdL_ret, endL, evSeq, evOne, evAct, evOp, opKind, evPure, evRead, evNew, evWrite, evSlice, natOf, optVal, readAt, AV.cells, wantedA, putTm, val, allVals, evBin, evInt, evStr, evAppend, denseFrom, sizesAre, onesIn, evPlan, recheck, AV.beq_refl, H.new, H.put, fillF, fillAt, allOne, AV.one, setArgs, evRes, resOf, ofVal, ofVal0, blt_dec, ble_dec, beq_dec, T.get_set_ite, T.get_e, isShift, ikBeq, ty_0, ty_1, ty_2, ty_3, ty_4, ty_5, ty_6, ty_7, ty_8, ty_9, ty_10, ty_11, ty_12, ty_13, ty_14, ty_15, ty_16, ty_17, ty_18, ty_19, ty_20, ty_21, ty_22, ty_23, ty_24, ty_25, ty_26, ty_27, ty_28, ty_29, ty_30, ty_31, ty_32, ty_33, ty_34, ty_35, ty_36, ty_37, ty_38, ty_39, ty_40, ty_41, ty_42, ty_43, ty_44, ty_45, ty_46, ty_47, ty_48, ty_49, ty_50, ty_51, ty_52, ty_53, ty_54, ty_55, ty_56, ty_57, ty_58, ty_59, ty_60, ty_61, ty_62, ty_63, ty_64, ty_65, ty_66, ty_67, ty_68, ty_69, ty_70, ty_71, ty_72, ty_73, ty_74, ty_75, ty_76, ty_77, ty_78, ty_79, ty_80, ty_81, ty_82, ty_83, ty_84, ty_85, ty_86, ty_87, ty_88, ty_89, ty_90, ty_91, ty_92, ty_93, ty_94, ty_95, ty_96, ty_97, ty_98, ty_99, pl_3_10, pl_4_3, pl_5_3, pl_10_9, pl_10_11, pl_10_13, pl_13_1, pl_13_7, pl_16_6, pl_18_6, pl_19_1, pl_27_6, pl_27_11, pl_33_17, pl_35_4, pl_35_6, pl_36_10, pl_37_10, pl_39_3, pl_40_5, pl_40_11, pl_40_16, pl_40_17, pl_40_22, pl_40_23, pl_42_1, pl_42_3, pl_42_5, pl_42_8, pl_43_1, pl_43_3, pl_43_5, pl_43_8, pl_43_10, pl_43_13, pl_43_15, pl_43_18, pl_43_21, pl_46_3, pl_46_5, pl_46_6, pl_48_1, pl_48_2, pl_48_3, pl_52_1, hty, hpl, q1]
      exact ⟨o', h', ⟨rfl, rfl⟩, q2, q3, q4, q5⟩
    | true =>
      cases h2 : hasI L n with
      | true =>
        simp [cdL_seq, cdL_region, cdL_drawn, cdL_cond, cdL_block, cdL_skip, cdL_label, cdL_exit, cdL_ret, endL, evSeq, evOne, evAct, evOp, opKind, evPure, evRead, evNew, evWrite, evSlice, natOf, optVal, readAt, AV.cells, wantedA, putTm, val, allVals, evBin, evInt, evStr, evAppend, denseFrom, sizesAre, onesIn, evPlan, recheck, AV.beq_refl, H.new, H.put, fillF, fillAt, allOne, AV.one, setArgs, evRes, resOf, ofVal, ofVal0, blt_dec, ble_dec, beq_dec, T.get_set_ite, T.get_e, isShift, ikBeq, ty_0, ty_1, ty_2, ty_3, ty_4, ty_5, ty_6, ty_7, ty_8, ty_9, ty_10, ty_11, ty_12, ty_13, ty_14, ty_15, ty_16, ty_17, ty_18, ty_19, ty_20, ty_21, ty_22, ty_23, ty_24, ty_25, ty_26, ty_27, ty_28, ty_29, ty_30, ty_31, ty_32, ty_33, ty_34, ty_35, ty_36, ty_37, ty_38, ty_39, ty_40, ty_41, ty_42, ty_43, ty_44, ty_45, ty_46, ty_47, ty_48, ty_49, ty_50, ty_51, ty_52, ty_53, ty_54, ty_55, ty_56, ty_57, ty_58, ty_59, ty_60, ty_61, ty_62, ty_63, ty_64, ty_65, ty_66, ty_67, ty_68, ty_69, ty_70, ty_71, ty_72, ty_73, ty_74, ty_75, ty_76, ty_77, ty_78, ty_79, ty_80, ty_81, ty_82, ty_83, ty_84, ty_85, ty_86, ty_87, ty_88, ty_89, ty_90, ty_91, ty_92, ty_93, ty_94, ty_95, ty_96, ty_97, ty_98, ty_99, pl_3_10, pl_4_3, pl_5_3, pl_10_9, pl_10_11, pl_10_13, pl_13_1, pl_13_7, pl_16_6, pl_18_6, pl_19_1, pl_27_6, pl_27_11, pl_33_17, pl_35_4, pl_35_6, pl_36_10, pl_37_10, pl_39_3, pl_40_5, pl_40_11, pl_40_16, pl_40_17, pl_40_22, pl_40_23, pl_42_1, pl_42_3, pl_42_5, pl_42_8, pl_43_1, pl_43_3, pl_43_5, pl_43_8, pl_43_10, pl_43_13, pl_43_15, pl_43_18, pl_43_21, pl_46_3, pl_46_5, pl_46_6, pl_48_1, pl_48_2, pl_48_3, pl_52_1, hty, hpl, Ty.av, hhas, h1, h2, hkl, bytesOf]
        generalize hx : cdL E 29 34 (.loop b29_0) _ _ = x
        obtain ⟨tm', h', o', rfl, q1, q2, q3, q4, q5⟩ := rest o L _ _ x hx (hrN _ rfl fun j hj => by simp only [T.get_set_ite]; rw [if_neg (by omega)]) (by simpa [h1, h2] using hlen) (by simp [T.get_set_ite]) (by simp [T.get_set_ite]) (by simp [T.get_set_ite]) (by simp [T.get_set_ite]) (by simp) (.inl rfl) (fun j hj ho => by simp [T.get_set_ite]; omega)
        simp [cdL_seq, cdL_region, cdL_drawn, cdL_cond, cdL_block, cdL_skip, cdL_label, cdL_exit, cdL_ret, endL, evSeq, evOne, evAct, evOp, opKind, evPure, evRead, evNew, evWrite, evSlice, natOf, optVal, readAt, AV.cells, wantedA, putTm, val, allVals, evBin, evInt, evStr, evAppend, denseFrom, sizesAre, onesIn, evPlan, recheck, AV.beq_refl, H.new, H.put, fillF, fillAt, allOne, AV.one, setArgs, evRes, resOf, ofVal, ofVal0, blt_dec, ble_dec, beq_dec, T.get_set_ite, T.get_e, isShift, ikBeq, ty_0, ty_1, ty_2, ty_3, ty_4, ty_5, ty_6, ty_7, ty_8, ty_9, ty_10, ty_11, ty_12, ty_13, ty_14, ty_15, ty_16, ty_17, ty_18, ty_19, ty_20, ty_21, ty_22, ty_23, ty_24, ty_25, ty_26, ty_27, ty_28, ty_29, ty_30, ty_31, ty_32, ty_33, ty_34, ty_35, ty_36, ty_37, ty_38, ty_39, ty_40, ty_41, ty_42, ty_43, ty_44, ty_45, ty_46, ty_47, ty_48, ty_49, ty_50, ty_51, ty_52, ty_53, ty_54, ty_55, ty_56, ty_57, ty_58, ty_59, ty_60, ty_61, ty_62, ty_63, ty_64, ty_65, ty_66, ty_67, ty_68, ty_69, ty_70, ty_71, ty_72, ty_73, ty_74, ty_75, ty_76, ty_77, ty_78, ty_79, ty_80, ty_81, ty_82, ty_83, ty_84, ty_85, ty_86, ty_87, ty_88, ty_89, ty_90, ty_91, ty_92, ty_93, ty_94, ty_95, ty_96, ty_97, ty_98, ty_99, pl_3_10, pl_4_3, pl_5_3, pl_10_9, pl_10_11, pl_10_13, pl_13_1, pl_13_7, pl_16_6, pl_18_6, pl_19_1, pl_27_6, pl_27_11, pl_33_17, pl_35_4, pl_35_6, pl_36_10, pl_37_10, pl_39_3, pl_40_5, pl_40_11, pl_40_16, pl_40_17, pl_40_22, pl_40_23, pl_42_1, pl_42_3, pl_42_5, pl_42_8, pl_43_1, pl_43_3, pl_43_5, pl_43_8, pl_43_10, pl_43_13, pl_43_15, pl_43_18, pl_43_21, pl_46_3, pl_46_5, pl_46_6, pl_48_1, pl_48_2, pl_48_3, pl_52_1, hty, hpl, q1]
        exact ⟨o', h', ⟨rfl, rfl⟩, q2, q3, q4, q5⟩
      | false =>
        have eap : ints L ++ [.int .i64 n] = ints (L ++ [n]) := by simp [ints]
        have hlen1 : (ints (L ++ [n])).length = L.length + 1 := by simp [ints]
        rcases hr with ⟨rfl, e0⟩ | ⟨id, rfl, hg, hi⟩
        · have eL : L = [] := by simpa [ints] using e0
          subst eL
          have hh2 : ∀ h, evL E 21 [.sl .full [], .int .i64 n] h = some (.bool false, h) := fun h => by rw [← h2]; exact hhas h
          simp [cdL_seq, cdL_region, cdL_drawn, cdL_cond, cdL_block, cdL_skip, cdL_label, cdL_exit, cdL_ret, endL, evSeq, evOne, evAct, evOp, opKind, evPure, evRead, evNew, evWrite, evSlice, natOf, optVal, readAt, AV.cells, wantedA, putTm, val, allVals, evBin, evInt, evStr, evAppend, denseFrom, sizesAre, onesIn, evPlan, recheck, AV.beq_refl, H.new, H.put, fillF, fillAt, allOne, AV.one, setArgs, evRes, resOf, ofVal, ofVal0, blt_dec, ble_dec, beq_dec, T.get_set_ite, T.get_e, isShift, ikBeq, ty_0, ty_1, ty_2, ty_3, ty_4, ty_5, ty_6, ty_7, ty_8, ty_9, ty_10, ty_11, ty_12, ty_13, ty_14, ty_15, ty_16, ty_17, ty_18, ty_19, ty_20, ty_21, ty_22, ty_23, ty_24, ty_25, ty_26, ty_27, ty_28, ty_29, ty_30, ty_31, ty_32, ty_33, ty_34, ty_35, ty_36, ty_37, ty_38, ty_39, ty_40, ty_41, ty_42, ty_43, ty_44, ty_45, ty_46, ty_47, ty_48, ty_49, ty_50, ty_51, ty_52, ty_53, ty_54, ty_55, ty_56, ty_57, ty_58, ty_59, ty_60, ty_61, ty_62, ty_63, ty_64, ty_65, ty_66, ty_67, ty_68, ty_69, ty_70, ty_71, ty_72, ty_73, ty_74, ty_75, ty_76, ty_77, ty_78, ty_79, ty_80, ty_81, ty_82, ty_83, ty_84, ty_85, ty_86, ty_87, ty_88, ty_89, ty_90, ty_91, ty_92, ty_93, ty_94, ty_95, ty_96, ty_97, ty_98, ty_99, pl_3_10, pl_4_3, pl_5_3, pl_10_9, pl_10_11, pl_10_13, pl_13_1, pl_13_7, pl_16_6, pl_18_6, pl_19_1, pl_27_6, pl_27_11, pl_33_17, pl_35_4, pl_35_6, pl_36_10, pl_37_10, pl_39_3, pl_40_5, pl_40_11, pl_40_16, pl_40_17, pl_40_22, pl_40_23, pl_42_1, pl_42_3, pl_42_5, pl_42_8, pl_43_1, pl_43_3, pl_43_5, pl_43_8, pl_43_10, pl_43_13, pl_43_15, pl_43_18, pl_43_21, pl_46_3, pl_46_5, pl_46_6, pl_48_1, pl_48_2, pl_48_3, pl_52_1, hty, hpl, Ty.av, hh2, h1, h2, hkl, bytesOf, ints]
          generalize hx : cdL E 29 34 (.loop b29_0) _ _ = x
          obtain ⟨tm', h', o', rfl, q1, q2, q3, q4, q5⟩ := rest (.ch (h.nx + 1)) [n] _ _ x hx (.inr ⟨_, rfl, by simp [T.get_set_ite, ints], by simp⟩) (by simpa [h1, h2] using hlen) (by simp [T.get_set_ite, ints]) (by simp [T.get_set_ite]) (by simp [T.get_set_ite]) (by simp [T.get_set_ite]) (by simp; omega) (.inr ⟨_, rfl, by omega⟩) (fun j hj ho => by simp only [T.get_set_ite]; rw [if_neg (by omega), if_neg (by omega)])
          refine ⟨o', h', ?_, q2, q3, q4, fun j hj => q5 j hj (by simp)⟩
          simp [cdL_seq, cdL_region, cdL_drawn, cdL_cond, cdL_block, cdL_skip, cdL_label, cdL_exit, cdL_ret, endL, evSeq, evOne, evAct, evOp, opKind, evPure, evRead, evNew, evWrite, evSlice, natOf, optVal, readAt, AV.cells, wantedA, putTm, val, allVals, evBin, evInt, evStr, evAppend, denseFrom, sizesAre, onesIn, evPlan, recheck, AV.beq_refl, H.new, H.put, fillF, fillAt, allOne, AV.one, setArgs, evRes, resOf, ofVal, ofVal0, blt_dec, ble_dec, beq_dec, T.get_set_ite, T.get_e, isShift, ikBeq, ty_0, ty_1, ty_2, ty_3, ty_4, ty_5, ty_6, ty_7, ty_8, ty_9, ty_10, ty_11, ty_12, ty_13, ty_14, ty_15, ty_16, ty_17, ty_18, ty_19, ty_20, ty_21, ty_22, ty_23, ty_24, ty_25, ty_26, ty_27, ty_28, ty_29, ty_30, ty_31, ty_32, ty_33, ty_34, ty_35, ty_36, ty_37, ty_38, ty_39, ty_40, ty_41, ty_42, ty_43, ty_44, ty_45, ty_46, ty_47, ty_48, ty_49, ty_50, ty_51, ty_52, ty_53, ty_54, ty_55, ty_56, ty_57, ty_58, ty_59, ty_60, ty_61, ty_62, ty_63, ty_64, ty_65, ty_66, ty_67, ty_68, ty_69, ty_70, ty_71, ty_72, ty_73, ty_74, ty_75, ty_76, ty_77, ty_78, ty_79, ty_80, ty_81, ty_82, ty_83, ty_84, ty_85, ty_86, ty_87, ty_88, ty_89, ty_90, ty_91, ty_92, ty_93, ty_94, ty_95, ty_96, ty_97, ty_98, ty_99, pl_3_10, pl_4_3, pl_5_3, pl_10_9, pl_10_11, pl_10_13, pl_13_1, pl_13_7, pl_16_6, pl_18_6, pl_19_1, pl_27_6, pl_27_11, pl_33_17, pl_35_4, pl_35_6, pl_36_10, pl_37_10, pl_39_3, pl_40_5, pl_40_11, pl_40_16, pl_40_17, pl_40_22, pl_40_23, pl_42_1, pl_42_3, pl_42_5, pl_42_8, pl_43_1, pl_43_3, pl_43_5, pl_43_8, pl_43_10, pl_43_13, pl_43_15, pl_43_18, pl_43_21, pl_46_3, pl_46_5, pl_46_6, pl_48_1, pl_48_2, pl_48_3, pl_52_1, hty, hpl, q1, ints]
        · have hne : id ≠ h.nx := by omega
          have hne2 : h.nx ≠ id := by omega
          rw [hil] at hg
          simp [cdL_seq, cdL_region, cdL_drawn, cdL_cond, cdL_block, cdL_skip, cdL_label, cdL_exit, cdL_ret, endL, evSeq, evOne, evAct, evOp, opKind, evPure, evRead, evNew, evWrite, evSlice, natOf, optVal, readAt, AV.cells, wantedA, putTm, val, allVals, evBin, evInt, evStr, evAppend, denseFrom, sizesAre, onesIn, evPlan, recheck, AV.beq_refl, H.new, H.put, fillF, fillAt, allOne, AV.one, setArgs, evRes, resOf, ofVal, ofVal0, blt_dec, ble_dec, beq_dec, T.get_set_ite, T.get_e, isShift, ikBeq, ty_0, ty_1, ty_2, ty_3, ty_4, ty_5, ty_6, ty_7, ty_8, ty_9, ty_10, ty_11, ty_12, ty_13, ty_14, ty_15, ty_16, ty_17, ty_18, ty_19, ty_20, ty_21, ty_22, ty_23, ty_24, ty_25, ty_26, ty_27, ty_28, ty_29, ty_30, ty_31, ty_32, ty_33, ty_34, ty_35, ty_36, ty_37, ty_38, ty_39, ty_40, ty_41, ty_42, ty_43, ty_44, ty_45, ty_46, ty_47, ty_48, ty_49, ty_50, ty_51, ty_52, ty_53, ty_54, ty_55, ty_56, ty_57, ty_58, ty_59, ty_60, ty_61, ty_62, ty_63, ty_64, ty_65, ty_66, ty_67, ty_68, ty_69, ty_70, ty_71, ty_72, ty_73, ty_74, ty_75, ty_76, ty_77, ty_78, ty_79, ty_80, ty_81, ty_82, ty_83, ty_84, ty_85, ty_86, ty_87, ty_88, ty_89, ty_90, ty_91, ty_92, ty_93, ty_94, ty_95, ty_96, ty_97, ty_98, ty_99, pl_3_10, pl_4_3, pl_5_3, pl_10_9, pl_10_11, pl_10_13, pl_13_1, pl_13_7, pl_16_6, pl_18_6, pl_19_1, pl_27_6, pl_27_11, pl_33_17, pl_35_4, pl_35_6, pl_36_10, pl_37_10, pl_39_3, pl_40_5, pl_40_11, pl_40_16, pl_40_17, pl_40_22, pl_40_23, pl_42_1, pl_42_3, pl_42_5, pl_42_8, pl_43_1, pl_43_3, pl_43_5, pl_43_8, pl_43_10, pl_43_13, pl_43_15, pl_43_18, pl_43_21, pl_46_3, pl_46_5, pl_46_6, pl_48_1, pl_48_2, pl_48_3, pl_52_1, hty, hpl, Ty.av, hhas, h1, h2, hkl, bytesOf, hg, hne, hne2, hil, his, hby]
          generalize hx : cdL E 29 34 (.loop b29_0) _ _ = x
          obtain ⟨tm', h', o', rfl, q1, q2, q3, q4, q5⟩ := rest (.ch id) (L ++ [n]) _ _ x hx (.inr ⟨_, rfl, by simp [T.get_set_ite, hlen1], by simp; omega⟩) (by simpa [h1, h2] using hlen) (by simp [T.get_set_ite, eap]) (by simp [T.get_set_ite]) (by simp [T.get_set_ite]) (by simp [T.get_set_ite]) (by simp) (.inl rfl) (fun j hj ho => by
            have : j ≠ id := fun e => ho (by rw [e])
            simp [T.get_set_ite, this]; omega)
          refine ⟨o', h', ?_, q2, q3, q4, fun j hj hne => q5 j hj (by simpa using hne)⟩
          simp [cdL_seq, cdL_region, cdL_drawn, cdL_cond, cdL_block, cdL_skip, cdL_label, cdL_exit, cdL_ret, endL, evSeq, evOne, evAct, evOp, opKind, evPure, evRead, evNew, evWrite, evSlice, natOf, optVal, readAt, AV.cells, wantedA, putTm, val, allVals, evBin, evInt, evStr, evAppend, denseFrom, sizesAre, onesIn, evPlan, recheck, AV.beq_refl, H.new, H.put, fillF, fillAt, allOne, AV.one, setArgs, evRes, resOf, ofVal, ofVal0, blt_dec, ble_dec, beq_dec, T.get_set_ite, T.get_e, isShift, ikBeq, ty_0, ty_1, ty_2, ty_3, ty_4, ty_5, ty_6, ty_7, ty_8, ty_9, ty_10, ty_11, ty_12, ty_13, ty_14, ty_15, ty_16, ty_17, ty_18, ty_19, ty_20, ty_21, ty_22, ty_23, ty_24, ty_25, ty_26, ty_27, ty_28, ty_29, ty_30, ty_31, ty_32, ty_33, ty_34, ty_35, ty_36, ty_37, ty_38, ty_39, ty_40, ty_41, ty_42, ty_43, ty_44, ty_45, ty_46, ty_47, ty_48, ty_49, ty_50, ty_51, ty_52, ty_53, ty_54, ty_55, ty_56, ty_57, ty_58, ty_59, ty_60, ty_61, ty_62, ty_63, ty_64, ty_65, ty_66, ty_67, ty_68, ty_69, ty_70, ty_71, ty_72, ty_73, ty_74, ty_75, ty_76, ty_77, ty_78, ty_79, ty_80, ty_81, ty_82, ty_83, ty_84, ty_85, ty_86, ty_87, ty_88, ty_89, ty_90, ty_91, ty_92, ty_93, ty_94, ty_95, ty_96, ty_97, ty_98, ty_99, pl_3_10, pl_4_3, pl_5_3, pl_10_9, pl_10_11, pl_10_13, pl_13_1, pl_13_7, pl_16_6, pl_18_6, pl_19_1, pl_27_6, pl_27_11, pl_33_17, pl_35_4, pl_35_6, pl_36_10, pl_37_10, pl_39_3, pl_40_5, pl_40_11, pl_40_16, pl_40_17, pl_40_22, pl_40_23, pl_42_1, pl_42_3, pl_42_5, pl_42_8, pl_43_1, pl_43_3, pl_43_5, pl_43_8, pl_43_10, pl_43_13, pl_43_15, pl_43_18, pl_43_21, pl_46_3, pl_46_5, pl_46_6, pl_48_1, pl_48_2, pl_48_3, pl_52_1, hty, hpl, q1]
/-- The program's Vars. -/
def qvb (t : Ty) : Prop := fit t ∧ (varsF t []).length ≤ 1000000
noncomputable abbrev pTVars := primVal (ofRel (Rel1 qvb (fun t => varsF t [])))
noncomputable def envC : Env := addPrim env 21 pCont
theorem envC_ok : EnvOk Try.prog envC := addPrim_ok env_ok pCont_ok
theorem pTVars_ok : PrimOk Try.prog 20 pTVars := prim1_ok envC_ok (fn := Try.f20) (by kernel_rfl) rfl (by kernel_rfl) fun t hq => by
  have hv := fun h => adds_run (E := envC) rfl rfl (by kernel_rfl) (by kernel_rfl) (by kernel_rfl) (dep t) t .full [] h (Nat.le_refl _) hq.1 (.inl ⟨rfl, rfl⟩) hq.2
  have hty : envC.ty = env.ty := rfl
  obtain ⟨o', h', e, _⟩ := hv ⟨T.e.set 0 (.cells t.av.cells), 1⟩
  obtain ⟨a, b, c, ea⟩ := av_agg t
  unfold bodyL
  rw [show (Enc.enc t : AV) = t.av from rfl]
  rw [ea] at e ⊢
  simp only [AV.cells] at e
  simp only [Try.f20]
  simp [cdL_seq, cdL_region, cdL_drawn, cdL_cond, cdL_block, cdL_skip, cdL_label, cdL_exit, cdL_ret, endL, evSeq, evOne, evAct, evOp, opKind, evPure, evRead, evNew, evWrite, evSlice, natOf, optVal, readAt, AV.cells, wantedA, putTm, val, allVals, evBin, evInt, evStr, evAppend, denseFrom, sizesAre, onesIn, evPlan, recheck, AV.beq_refl, H.new, H.put, fillF, fillAt, allOne, AV.one, setArgs, evRes, resOf, ofVal, ofVal0, blt_dec, ble_dec, beq_dec, T.get_set_ite, T.get_e, isShift, ikBeq, ty_0, ty_1, ty_2, ty_3, ty_4, ty_5, ty_6, ty_7, ty_8, ty_9, ty_10, ty_11, ty_12, ty_13, ty_14, ty_15, ty_16, ty_17, ty_18, ty_19, ty_20, ty_21, ty_22, ty_23, ty_24, ty_25, ty_26, ty_27, ty_28, ty_29, ty_30, ty_31, ty_32, ty_33, ty_34, ty_35, ty_36, ty_37, ty_38, ty_39, ty_40, ty_41, ty_42, ty_43, ty_44, ty_45, ty_46, ty_47, ty_48, ty_49, ty_50, ty_51, ty_52, ty_53, ty_54, ty_55, ty_56, ty_57, ty_58, ty_59, ty_60, ty_61, ty_62, ty_63, ty_64, ty_65, ty_66, ty_67, ty_68, ty_69, ty_70, ty_71, ty_72, ty_73, ty_74, ty_75, ty_76, ty_77, ty_78, ty_79, ty_80, ty_81, ty_82, ty_83, ty_84, ty_85, ty_86, ty_87, ty_88, ty_89, ty_90, ty_91, ty_92, ty_93, ty_94, ty_95, ty_96, ty_97, ty_98, ty_99, pl_3_10, pl_4_3, pl_5_3, pl_10_9, pl_10_11, pl_10_13, pl_13_1, pl_13_7, pl_16_6, pl_18_6, pl_19_1, pl_27_6, pl_27_11, pl_33_17, pl_35_4, pl_35_6, pl_36_10, pl_37_10, pl_39_3, pl_40_5, pl_40_11, pl_40_16, pl_40_17, pl_40_22, pl_40_23, pl_42_1, pl_42_3, pl_42_5, pl_42_8, pl_43_1, pl_43_3, pl_43_5, pl_43_8, pl_43_10, pl_43_13, pl_43_15, pl_43_18, pl_43_21, pl_46_3, pl_46_5, pl_46_6, pl_48_1, pl_48_2, pl_48_3, pl_52_1, hty, ints] at e ⊢
  simp [cdL_seq, cdL_region, cdL_drawn, cdL_cond, cdL_block, cdL_skip, cdL_label, cdL_exit, cdL_ret, endL, evSeq, evOne, evAct, evOp, opKind, evPure, evRead, evNew, evWrite, evSlice, natOf, optVal, readAt, AV.cells, wantedA, putTm, val, allVals, evBin, evInt, evStr, evAppend, denseFrom, sizesAre, onesIn, evPlan, recheck, AV.beq_refl, H.new, H.put, fillF, fillAt, allOne, AV.one, setArgs, evRes, resOf, ofVal, ofVal0, blt_dec, ble_dec, beq_dec, T.get_set_ite, T.get_e, isShift, ikBeq, ty_0, ty_1, ty_2, ty_3, ty_4, ty_5, ty_6, ty_7, ty_8, ty_9, ty_10, ty_11, ty_12, ty_13, ty_14, ty_15, ty_16, ty_17, ty_18, ty_19, ty_20, ty_21, ty_22, ty_23, ty_24, ty_25, ty_26, ty_27, ty_28, ty_29, ty_30, ty_31, ty_32, ty_33, ty_34, ty_35, ty_36, ty_37, ty_38, ty_39, ty_40, ty_41, ty_42, ty_43, ty_44, ty_45, ty_46, ty_47, ty_48, ty_49, ty_50, ty_51, ty_52, ty_53, ty_54, ty_55, ty_56, ty_57, ty_58, ty_59, ty_60, ty_61, ty_62, ty_63, ty_64, ty_65, ty_66, ty_67, ty_68, ty_69, ty_70, ty_71, ty_72, ty_73, ty_74, ty_75, ty_76, ty_77, ty_78, ty_79, ty_80, ty_81, ty_82, ty_83, ty_84, ty_85, ty_86, ty_87, ty_88, ty_89, ty_90, ty_91, ty_92, ty_93, ty_94, ty_95, ty_96, ty_97, ty_98, ty_99, pl_3_10, pl_4_3, pl_5_3, pl_10_9, pl_10_11, pl_10_13, pl_13_1, pl_13_7, pl_16_6, pl_18_6, pl_19_1, pl_27_6, pl_27_11, pl_33_17, pl_35_4, pl_35_6, pl_36_10, pl_37_10, pl_39_3, pl_40_5, pl_40_11, pl_40_16, pl_40_17, pl_40_22, pl_40_23, pl_42_1, pl_42_3, pl_42_5, pl_42_8, pl_43_1, pl_43_3, pl_43_5, pl_43_8, pl_43_10, pl_43_13, pl_43_15, pl_43_18, pl_43_21, pl_46_3, pl_46_5, pl_46_6, pl_48_1, pl_48_2, pl_48_3, pl_52_1, hty, e, Enc.enc, wk_agg, wk_tup, wk_sl, wks_cons, wks_nil, wk_int, wk_str, wk_bool, own_no]
  exact wks_map_refl 0 _
theorem cTVars {E : Env} (hp : E.prim 20 = some pTVars) {x : AV} {t : Ty} (hx : x.wk 0 t.av) (hf : fit t) (hs : (varsF t []).length ≤ 1000000) (h : H) : evL E 20 [x] h = some (.sl .no (ints (varsF t [])), h) :=
  prim1_call (a := t) (F := fun t => varsF t []) (q := qvb) hp hx ⟨hf, hs⟩ h
end Go.Proofs.Ytcmbpfobdgijjaa.Env
/- The reference's Free. -/
set_option autoImplicit false
set_option maxRecDepth 100000
set_option linter.unusedSimpArgs false
set_option linter.unusedVariables false
set_option linter.unusedSectionVars false
namespace Go.Proofs.Ytcmbpfobdgijjaa.Env
open Go.Ev

/-- Into a row that rises. -/
def insF (out : List Int) (v : Int) : List Int := out.takeWhile (fun y => ltI y v) ++ v :: out.dropWhile (fun y => ltI y v)
def stepR (own : List Int) (out : List Int) (v : Int) : List Int := bif hasI own v || hasI out v then out else insF out v
def freeR1 (b : Bd) (out : List Int) : List Int := (varsF b.ty []).foldl (stepR b.vars) out
def freeR (l : List Bd) (out : List Int) : List Int := l.foldl (fun out b => freeR1 b out) out
theorem insF_len (out : List Int) (v : Int) : (insF out v).length = out.length + 1 := by
  have := congrArg List.length (List.takeWhile_append_dropWhile (p := fun y => ltI y v) (l := out))
  simp only [List.length_append] at this
  simp only [insF, List.length_append, List.length_cons]
  omega
noncomputable def b10_0 : Code := loopOf Try.f10 0
noncomputable def b10_1 : Code := loopOf Try.f10 1
noncomputable def b10_2 : Code := loopOf Try.f10 2
theorem body10 : Try.f10.body = some (.seq (codeAt Try.f10 [0]) (.seq (codeAt Try.f10 [1, 0]) (.seq (.seq (codeAt Try.f10 [1, 1, 0, 0]) (.block 0 (.loop b10_0))) (codeAt Try.f10 [1, 1, 1])))) := rfl
theorem lb10_1 : b10_1 = (.seq (codeAt Try.f10 [1, 1, 0, 1, 0, 0, 1, 0, 0, 1, 1, 0, 0, 0]) (.seq (.block 3 (.seq (codeAt Try.f10 [1, 1, 0, 1, 0, 0, 1, 0, 0, 1, 1, 0, 0, 1, 0, 0, 0]) (.seq (codeAt Try.f10 [1, 1, 0, 1, 0, 0, 1, 0, 0, 1, 1, 0, 0, 1, 0, 0, 1, 0]) (.seq (.block 4 (.loop b10_2)) (codeAt Try.f10 [1, 1, 0, 1, 0, 0, 1, 0, 0, 1, 1, 0, 0, 1, 0, 0, 1, 1, 1]))))) (codeAt Try.f10 [1, 1, 0, 1, 0, 0, 1, 0, 0, 1, 1, 0, 0, 1, 1]))) := rfl
theorem lb10_0 : b10_0 = (.seq (codeAt Try.f10 [1, 1, 0, 1, 0, 0, 0]) (.seq (.block 1 (.seq (codeAt Try.f10 [1, 1, 0, 1, 0, 0, 1, 0, 0, 0]) (.seq (codeAt Try.f10 [1, 1, 0, 1, 0, 0, 1, 0, 0, 1, 0]) (.block 2 (.loop b10_1))))) (codeAt Try.f10 [1, 1, 0, 1, 0, 0, 1, 1]))) := rfl
theorem ints_get {L : List Int} {i : Nat} {n : Int} (h : L[i]? = some n) : (ints L)[i]? = some (.int .i64 n) := by unfold ints; rw [List.getElem?_map, h]; rfl
theorem loop10_2 {E : Env} (hty : E.ty = env.ty) (hpl : E.plan = env.plan) {o : Own} {out V : List Int} {j : Nat} {v : Int} (hl : out.length ≤ 1000000) (hv : V[j]? = some v) :
    ∀ (l : List Int) (i : Nat) {tm : Tm} {h : H} {x : Option (Ex × Tm × H)}, cdL E 10 79 (.loop b10_2) tm h = x → l = out.drop i → i ≤ out.length →
    tm.get 3 = some (.sl o (ints out)) → tm.get 5 = some (.sl .no (ints V)) → tm.get 6 = some (.int .i64 ↑j) → tm.get 7 = some (.int .i64 ↑i) →
    ∃ tm', x = some (.exit 4, tm', h) ∧ tm'.get 7 = some (.int .i64 ↑(i + (l.takeWhile (fun y => ltI y v)).length)) ∧ ∀ k, k < 46 → k ≠ 7 → tm'.get k = tm.get k
  | [], i, tm, h, x, hx, hd, hi, g3, g5, g6, g7 => by
    have hlen := dnil hd hi
    have hil := ints_len out
    rw [hlen] at hil
    have hjv := ints_get hv
    obtain ⟨R, hR, hx⟩ := loop_step hx
    simp [b10_2, loopOf, Try.f10, loops, cdL_seq, cdL_region, cdL_drawn, cdL_cond, cdL_block, cdL_skip, cdL_label, cdL_exit, cdL_ret, endL, evSeq, evOne, evAct, evOp, opKind, evPure, evRead, evNew, evWrite, evSlice, natOf, optVal, readAt, AV.cells, wantedA, putTm, val, allVals, evBin, evInt, evStr, evAppend, denseFrom, sizesAre, onesIn, evPlan, recheck, AV.beq_refl, H.new, H.put, fillF, fillAt, allOne, AV.one, setArgs, evRes, resOf, ofVal, ofVal0, blt_dec, ble_dec, beq_dec, T.get_set_ite, T.get_e, isShift, ikBeq, ty_0, ty_1, ty_2, ty_3, ty_4, ty_5, ty_6, ty_7, ty_8, ty_9, ty_10, ty_11, ty_12, ty_13, ty_14, ty_15, ty_16, ty_17, ty_18, ty_19, ty_20, ty_21, ty_22, ty_23, ty_24, ty_25, ty_26, ty_27, ty_28, ty_29, ty_30, ty_31, ty_32, ty_33, ty_34, ty_35, ty_36, ty_37, ty_38, ty_39, ty_40, ty_41, ty_42, ty_43, ty_44, ty_45, ty_46, ty_47, ty_48, ty_49, ty_50, ty_51, ty_52, ty_53, ty_54, ty_55, ty_56, ty_57, ty_58, ty_59, ty_60, ty_61, ty_62, ty_63, ty_64, ty_65, ty_66, ty_67, ty_68, ty_69, ty_70, ty_71, ty_72, ty_73, ty_74, ty_75, ty_76, ty_77, ty_78, ty_79, ty_80, ty_81, ty_82, ty_83, ty_84, ty_85, ty_86, ty_87, ty_88, ty_89, ty_90, ty_91, ty_92, ty_93, ty_94, ty_95, ty_96, ty_97, ty_98, ty_99, pl_3_10, pl_4_3, pl_5_3, pl_10_9, pl_10_11, pl_10_13, pl_13_1, pl_13_7, pl_16_6, pl_18_6, pl_19_1, pl_27_6, pl_27_11, pl_33_17, pl_35_4, pl_35_6, pl_36_10, pl_37_10, pl_39_3, pl_40_5, pl_40_11, pl_40_16, pl_40_17, pl_40_22, pl_40_23, pl_42_1, pl_42_3, pl_42_5, pl_42_8, pl_43_1, pl_43_3, pl_43_5, pl_43_8, pl_43_10, pl_43_13, pl_43_15, pl_43_18, pl_43_21, pl_46_3, pl_46_5, pl_46_6, pl_48_1, pl_48_2, pl_48_3, pl_52_1, lp, hty, hpl, g3, g5, g6, g7, hil, hjv, ltI_f] at hx
    exact ⟨_, hx.symm, by simp [T.get_set_ite, g7], fun k hk h7 => by simp only [T.get_set_ite]; repeat rw [if_neg (by omega)]⟩
  | c :: l, i, tm, h, x, hx, hd, hi, g3, g5, g6, g7 => by
    obtain ⟨hlt, hc, hd'⟩ := dcons hd
    have hil := ints_len out
    have hic := ints_get hc
    have hjv := ints_get hv
    have hlt' := ltI_t hlt
    have hw := wr_succ (i := i) (by omega)
    obtain ⟨R, hR, hx⟩ := loop_step hx
    cases hb : ltI c v with
    | false =>
      simp [b10_2, loopOf, Try.f10, loops, cdL_seq, cdL_region, cdL_drawn, cdL_cond, cdL_block, cdL_skip, cdL_label, cdL_exit, cdL_ret, endL, evSeq, evOne, evAct, evOp, opKind, evPure, evRead, evNew, evWrite, evSlice, natOf, optVal, readAt, AV.cells, wantedA, putTm, val, allVals, evBin, evInt, evStr, evAppend, denseFrom, sizesAre, onesIn, evPlan, recheck, AV.beq_refl, H.new, H.put, fillF, fillAt, allOne, AV.one, setArgs, evRes, resOf, ofVal, ofVal0, blt_dec, ble_dec, beq_dec, T.get_set_ite, T.get_e, isShift, ikBeq, ty_0, ty_1, ty_2, ty_3, ty_4, ty_5, ty_6, ty_7, ty_8, ty_9, ty_10, ty_11, ty_12, ty_13, ty_14, ty_15, ty_16, ty_17, ty_18, ty_19, ty_20, ty_21, ty_22, ty_23, ty_24, ty_25, ty_26, ty_27, ty_28, ty_29, ty_30, ty_31, ty_32, ty_33, ty_34, ty_35, ty_36, ty_37, ty_38, ty_39, ty_40, ty_41, ty_42, ty_43, ty_44, ty_45, ty_46, ty_47, ty_48, ty_49, ty_50, ty_51, ty_52, ty_53, ty_54, ty_55, ty_56, ty_57, ty_58, ty_59, ty_60, ty_61, ty_62, ty_63, ty_64, ty_65, ty_66, ty_67, ty_68, ty_69, ty_70, ty_71, ty_72, ty_73, ty_74, ty_75, ty_76, ty_77, ty_78, ty_79, ty_80, ty_81, ty_82, ty_83, ty_84, ty_85, ty_86, ty_87, ty_88, ty_89, ty_90, ty_91, ty_92, ty_93, ty_94, ty_95, ty_96, ty_97, ty_98, ty_99, pl_3_10, pl_4_3, pl_5_3, pl_10_9, pl_10_11, pl_10_13, pl_13_1, pl_13_7, pl_16_6, pl_18_6, pl_19_1, pl_27_6, pl_27_11, pl_33_17, pl_35_4, pl_35_6, pl_36_10, pl_37_10, pl_39_3, pl_40_5, pl_40_11, pl_40_16, pl_40_17, pl_40_22, pl_40_23, pl_42_1, pl_42_3, pl_42_5, pl_42_8, pl_43_1, pl_43_3, pl_43_5, pl_43_8, pl_43_10, pl_43_13, pl_43_15, pl_43_18, pl_43_21, pl_46_3, pl_46_5, pl_46_6, pl_48_1, pl_48_2, pl_48_3, pl_52_1, lp, hty, hpl, g3, g5, g6, g7, hil, hlt', hic, hjv, hb] at hx
      exact ⟨_, hx.symm, by simp [T.get_set_ite, g7, List.takeWhile, hb], fun k hk h7 => by simp only [T.get_set_ite]; repeat rw [if_neg (by omega)]⟩
    | true =>
      simp [b10_2, loopOf, Try.f10, loops, cdL_seq, cdL_region, cdL_drawn, cdL_cond, cdL_block, cdL_skip, cdL_label, cdL_exit, cdL_ret, endL, evSeq, evOne, evAct, evOp, opKind, evPure, evRead, evNew, evWrite, evSlice, natOf, optVal, readAt, AV.cells, wantedA, putTm, val, allVals, evBin, evInt, evStr, evAppend, denseFrom, sizesAre, onesIn, evPlan, recheck, AV.beq_refl, H.new, H.put, fillF, fillAt, allOne, AV.one, setArgs, evRes, resOf, ofVal, ofVal0, blt_dec, ble_dec, beq_dec, T.get_set_ite, T.get_e, isShift, ikBeq, ty_0, ty_1, ty_2, ty_3, ty_4, ty_5, ty_6, ty_7, ty_8, ty_9, ty_10, ty_11, ty_12, ty_13, ty_14, ty_15, ty_16, ty_17, ty_18, ty_19, ty_20, ty_21, ty_22, ty_23, ty_24, ty_25, ty_26, ty_27, ty_28, ty_29, ty_30, ty_31, ty_32, ty_33, ty_34, ty_35, ty_36, ty_37, ty_38, ty_39, ty_40, ty_41, ty_42, ty_43, ty_44, ty_45, ty_46, ty_47, ty_48, ty_49, ty_50, ty_51, ty_52, ty_53, ty_54, ty_55, ty_56, ty_57, ty_58, ty_59, ty_60, ty_61, ty_62, ty_63, ty_64, ty_65, ty_66, ty_67, ty_68, ty_69, ty_70, ty_71, ty_72, ty_73, ty_74, ty_75, ty_76, ty_77, ty_78, ty_79, ty_80, ty_81, ty_82, ty_83, ty_84, ty_85, ty_86, ty_87, ty_88, ty_89, ty_90, ty_91, ty_92, ty_93, ty_94, ty_95, ty_96, ty_97, ty_98, ty_99, pl_3_10, pl_4_3, pl_5_3, pl_10_9, pl_10_11, pl_10_13, pl_13_1, pl_13_7, pl_16_6, pl_18_6, pl_19_1, pl_27_6, pl_27_11, pl_33_17, pl_35_4, pl_35_6, pl_36_10, pl_37_10, pl_39_3, pl_40_5, pl_40_11, pl_40_16, pl_40_17, pl_40_22, pl_40_23, pl_42_1, pl_42_3, pl_42_5, pl_42_8, pl_43_1, pl_43_3, pl_43_5, pl_43_8, pl_43_10, pl_43_13, pl_43_15, pl_43_18, pl_43_21, pl_46_3, pl_46_5, pl_46_6, pl_48_1, pl_48_2, pl_48_3, pl_52_1, lp, hty, hpl, g3, g5, g6, g7, hil, hlt', hic, hjv, hb, hw] at hx
      rw [hR] at hx
      obtain ⟨tm', q1, q2, q3⟩ := loop10_2 hty hpl (o := o) (out := out) (V := V) (j := j) (v := v) hl hv l (i + 1) hx hd' hlt (by simp [T.get_set_ite, g3]) (by simp [T.get_set_ite, g5]) (by simp [T.get_set_ite, g6]) (by simp [T.get_set_ite])
      refine ⟨tm', q1, ?_, fun k hk h7 => ?_⟩
      · rw [q2]; simp [List.takeWhile, hb]; omega
      · rw [q3 k hk h7]
        simp only [T.get_set_ite]
        repeat rw [if_neg (by omega)]
end Go.Proofs.Ytcmbpfobdgijjaa.Env
/- The reference's Free: a bound's vars. -/
set_option autoImplicit false
set_option maxRecDepth 100000
set_option linter.unusedSimpArgs false
set_option linter.unusedVariables false
set_option linter.unusedSectionVars false
namespace Go.Proofs.Ytcmbpfobdgijjaa.Env
open Go.Ev

theorem app_ints {h : H} {w : Own} {xs ys : List Int} (hl : xs.length + ys.length ≤ 1000000) (r : RowE 3 1 h w (ints xs)) :
    ∃ w' h', evAppend 3 1 8 h (.sl w (ints xs)) (ints ys) = some (.sl w' (ints (xs ++ ys)), h') ∧ RowE 3 1 h' w' (ints (xs ++ ys)) := by
  have l1 := ints_len xs
  have l2 := ints_len ys
  have s1 := ints_sizes xs
  have s2 := ints_sizes ys
  have eap : ints xs ++ ints ys = ints (xs ++ ys) := by simp [ints]
  have o2 : onesIn (ints ys) = true := by
    clear l2 s2 eap hl
    induction ys with
    | nil => rfl
    | cons y l ih => simp only [ints, List.map_cons, onesIn, Bool.and_eq_true] at ih ⊢; exact ⟨rfl, ih⟩
  have hby : (xs.length + ys.length) * 8 ≤ 140737488355328 := by omega
  have hc : (Nat.blt 0 1 && (Nat.blt 0 8 && (sizesAre 1 (ints ys) && (onesIn (ints ys) && (sizesAre 1 (ints xs) && Nat.ble (((ints xs).length + (ints ys).length) * 8) 140737488355328))))) = true := by
    rw [s1, s2, o2, l1, l2]
    have : Nat.ble ((xs.length + ys.length) * 8) 140737488355328 = true := by rw [Nat.ble_eq]; exact hby
    rw [this]; rfl
  unfold evAppend
  simp only [hc, cond_true]
  cases ys with
  | nil => exact ⟨w, h, by simp [ints], by simpa using r⟩
  | cons y l =>
    have e : ints (y :: l) = .int .i64 y :: ints l := rfl
    rcases r with ⟨rfl, e0⟩ | ⟨id, rfl, hg, hi⟩
    · refine ⟨.ch h.nx, h.new (.chain (xs ++ y :: l).length 3 1), ?_, .inr ⟨_, rfl, by simp [H.new, T.get_set_ite, ints], by simp [H.new]⟩⟩
      rw [e] at eap l2 ⊢
      simp only [eap, l1, l2, List.length_append]
    · rw [l1] at hg
      have hb : Nat.beq xs.length (ints xs).length = true := by rw [l1]; exact Nat.beq_refl _
      refine ⟨.ch id, h.put id (.chain (xs ++ y :: l).length 3 1), ?_, .inr ⟨_, rfl, by simp [H.put, T.get_set_ite, ints], by simpa [H.put] using hi⟩⟩
      rw [e] at eap l2 ⊢
      simp only [hg, hb, eap, l1, l2, List.length_append, Nat.beq_refl, Bool.and_self, cond_true]
theorem take_while_len (out : List Int) (v : Int) : out.take (out.takeWhile (fun y => ltI y v)).length = out.takeWhile (fun y => ltI y v) ∧ out.drop (out.takeWhile (fun y => ltI y v)).length = out.dropWhile (fun y => ltI y v) := by
  induction out with
  | nil => exact ⟨rfl, rfl⟩
  | cons c l ih =>
    cases h : ltI c v with
    | true => simp [List.takeWhile, List.dropWhile, h, ih.1, ih.2]
    | false => simp [List.takeWhile, List.dropWhile, h]
theorem loop10_1 {E : Env} (hty : E.ty = env.ty) (hpl : E.plan = env.plan) (h11 : E.prim 11 = some p22) {bs : List Bd} {b : Bd} {i : Nat} (hb : bs[i]? = some b) {V : List Int} (hV : V.length ≤ 1000000) (hbv : b.vars.length ≤ 9223372036854775807) :
    ∀ (l : List Int) (j : Nat) (w : Own) (out : List Int) {tm : Tm} {h : H} {x : Option (Ex × Tm × H)}, cdL E 10 79 (.loop b10_1) tm h = x → l = V.drop j → j ≤ V.length → out.length + l.length ≤ 1000000 → RowE 3 1 h w (ints out) →
    tm.get 0 = some (.sl .no (bds bs)) → tm.get 3 = some (.sl w (ints out)) → tm.get 4 = some (.int .i64 ↑i) → tm.get 5 = some (.sl .no (ints V)) → tm.get 6 = some (.int .i64 ↑j) →
    ∃ tm' h' w', x = some (.exit 2, tm', h') ∧ tm'.get 0 = some (.sl .no (bds bs)) ∧ tm'.get 3 = some (.sl w' (ints (l.foldl (stepR b.vars) out))) ∧ tm'.get 4 = some (.int .i64 ↑i) ∧ RowE 3 1 h' w' (ints (l.foldl (stepR b.vars) out))
  | [], j, w, out, tm, h, x, hx, hd, hj, hlen, hr, g0, g3, g4, g5, g6 => by
    have hl := dnil hd hj
    have hil := ints_len V
    rw [hl] at hil
    obtain ⟨R, hR, hx⟩ := loop_step hx
    rw [lb10_1] at hx
    simp only [codeAt, sub, Try.f10] at hx
    simp [cdL_seq, cdL_region, cdL_drawn, cdL_cond, cdL_block, cdL_skip, cdL_label, cdL_exit, cdL_ret, endL, evSeq, evOne, evAct, evOp, opKind, evPure, evRead, evNew, evWrite, evSlice, natOf, optVal, readAt, AV.cells, wantedA, putTm, val, allVals, evBin, evInt, evStr, evAppend, denseFrom, sizesAre, onesIn, evPlan, recheck, AV.beq_refl, H.new, H.put, fillF, fillAt, allOne, AV.one, setArgs, evRes, resOf, ofVal, ofVal0, blt_dec, ble_dec, beq_dec, T.get_set_ite, T.get_e, isShift, ikBeq, ty_0, ty_1, ty_2, ty_3, ty_4, ty_5, ty_6, ty_7, ty_8, ty_9, ty_10, ty_11, ty_12, ty_13, ty_14, ty_15, ty_16, ty_17, ty_18, ty_19, ty_20, ty_21, ty_22, ty_23, ty_24, ty_25, ty_26, ty_27, ty_28, ty_29, ty_30, ty_31, ty_32, ty_33, ty_34, ty_35, ty_36, ty_37, ty_38, ty_39, ty_40, ty_41, ty_42, ty_43, ty_44, ty_45, ty_46, ty_47, ty_48, ty_49, ty_50, ty_51, ty_52, ty_53, ty_54, ty_55, ty_56, ty_57, ty_58, ty_59, ty_60, ty_61, ty_62, ty_63, ty_64, ty_65, ty_66, ty_67, ty_68, ty_69, ty_70, ty_71, ty_72, ty_73, ty_74, ty_75, ty_76, ty_77, ty_78, ty_79, ty_80, ty_81, ty_82, ty_83, ty_84, ty_85, ty_86, ty_87, ty_88, ty_89, ty_90, ty_91, ty_92, ty_93, ty_94, ty_95, ty_96, ty_97, ty_98, ty_99, pl_3_10, pl_4_3, pl_5_3, pl_10_9, pl_10_11, pl_10_13, pl_13_1, pl_13_7, pl_16_6, pl_18_6, pl_19_1, pl_27_6, pl_27_11, pl_33_17, pl_35_4, pl_35_6, pl_36_10, pl_37_10, pl_39_3, pl_40_5, pl_40_11, pl_40_16, pl_40_17, pl_40_22, pl_40_23, pl_42_1, pl_42_3, pl_42_5, pl_42_8, pl_43_1, pl_43_3, pl_43_5, pl_43_8, pl_43_10, pl_43_13, pl_43_15, pl_43_18, pl_43_21, pl_46_3, pl_46_5, pl_46_6, pl_48_1, pl_48_2, pl_48_3, pl_52_1, lp, hty, hpl, g0, g3, g4, g5, g6, hil, ltI_f] at hx
    exact ⟨_, h, w, hx.symm, by simp [T.get_set_ite, g0], by simp [T.get_set_ite, g3], by simp [T.get_set_ite, g4], hr⟩
  | v :: l, j, w, out, tm, h, x, hx, hd, hj, hlen, hr, g0, g3, g4, g5, g6 => by
    obtain ⟨hlt, hc, hd'⟩ := dcons hd
    have hil := ints_len V
    have hol := ints_len out
    have hic := ints_get hc
    have hat := bds_get hb
    have hlt' := ltI_t hlt
    have hw := wr_succ (i := j) (by omega)
    simp only [List.length_cons] at hlen
    have k1 := fun h => c22 (E := E) h11 .no b.vars v hbv h
    have k2 := fun h => c22 (E := E) h11 w out v (by omega) h
    obtain ⟨a0, a1, a2, ha⟩ := av_cells b.ty
    simp only [Bd.av] at hat
    rw [ha] at hat
    simp only [AV.cells] at hat
    simp only [show ∀ L : List Int, L.map (AV.int .i64) = ints L from fun _ => rfl] at k1 k2
    obtain ⟨R, hR, hx⟩ := loop_step hx
    rw [lb10_1] at hx
    simp only [codeAt, sub, Try.f10] at hx
    simp only [List.foldl_cons, stepR]
    cases h1 : hasI b.vars v with
    | true =>
      simp [cdL_seq, cdL_region, cdL_drawn, cdL_cond, cdL_block, cdL_skip, cdL_label, cdL_exit, cdL_ret, endL, evSeq, evOne, evAct, evOp, opKind, evPure, evRead, evNew, evWrite, evSlice, natOf, optVal, readAt, AV.cells, wantedA, putTm, val, allVals, evBin, evInt, evStr, evAppend, denseFrom, sizesAre, onesIn, evPlan, recheck, AV.beq_refl, H.new, H.put, fillF, fillAt, allOne, AV.one, setArgs, evRes, resOf, ofVal, ofVal0, blt_dec, ble_dec, beq_dec, T.get_set_ite, T.get_e, isShift, ikBeq, ty_0, ty_1, ty_2, ty_3, ty_4, ty_5, ty_6, ty_7, ty_8, ty_9, ty_10, ty_11, ty_12, ty_13, ty_14, ty_15, ty_16, ty_17, ty_18, ty_19, ty_20, ty_21, ty_22, ty_23, ty_24, ty_25, ty_26, ty_27, ty_28, ty_29, ty_30, ty_31, ty_32, ty_33, ty_34, ty_35, ty_36, ty_37, ty_38, ty_39, ty_40, ty_41, ty_42, ty_43, ty_44, ty_45, ty_46, ty_47, ty_48, ty_49, ty_50, ty_51, ty_52, ty_53, ty_54, ty_55, ty_56, ty_57, ty_58, ty_59, ty_60, ty_61, ty_62, ty_63, ty_64, ty_65, ty_66, ty_67, ty_68, ty_69, ty_70, ty_71, ty_72, ty_73, ty_74, ty_75, ty_76, ty_77, ty_78, ty_79, ty_80, ty_81, ty_82, ty_83, ty_84, ty_85, ty_86, ty_87, ty_88, ty_89, ty_90, ty_91, ty_92, ty_93, ty_94, ty_95, ty_96, ty_97, ty_98, ty_99, pl_3_10, pl_4_3, pl_5_3, pl_10_9, pl_10_11, pl_10_13, pl_13_1, pl_13_7, pl_16_6, pl_18_6, pl_19_1, pl_27_6, pl_27_11, pl_33_17, pl_35_4, pl_35_6, pl_36_10, pl_37_10, pl_39_3, pl_40_5, pl_40_11, pl_40_16, pl_40_17, pl_40_22, pl_40_23, pl_42_1, pl_42_3, pl_42_5, pl_42_8, pl_43_1, pl_43_3, pl_43_5, pl_43_8, pl_43_10, pl_43_13, pl_43_15, pl_43_18, pl_43_21, pl_46_3, pl_46_5, pl_46_6, pl_48_1, pl_48_2, pl_48_3, pl_52_1, lp, hty, hpl, g0, g3, g4, g5, g6, hil, hlt', hic, hat, k1, k2, h1, hw] at hx
      rw [hR] at hx
      exact loop10_1 hty hpl h11 hb hV hbv l (j + 1) w out hx hd' hlt (by omega) hr (by simp [T.get_set_ite, g0]) (by simp [T.get_set_ite, g3]) (by simp [T.get_set_ite, g4]) (by simp [T.get_set_ite, g5]) (by simp [T.get_set_ite])
    | false =>
      cases h2 : hasI out v with
      | true =>
        simp [cdL_seq, cdL_region, cdL_drawn, cdL_cond, cdL_block, cdL_skip, cdL_label, cdL_exit, cdL_ret, endL, evSeq, evOne, evAct, evOp, opKind, evPure, evRead, evNew, evWrite, evSlice, natOf, optVal, readAt, AV.cells, wantedA, putTm, val, allVals, evBin, evInt, evStr, evAppend, denseFrom, sizesAre, onesIn, evPlan, recheck, AV.beq_refl, H.new, H.put, fillF, fillAt, allOne, AV.one, setArgs, evRes, resOf, ofVal, ofVal0, blt_dec, ble_dec, beq_dec, T.get_set_ite, T.get_e, isShift, ikBeq, ty_0, ty_1, ty_2, ty_3, ty_4, ty_5, ty_6, ty_7, ty_8, ty_9, ty_10, ty_11, ty_12, ty_13, ty_14, ty_15, ty_16, ty_17, ty_18, ty_19, ty_20, ty_21, ty_22, ty_23, ty_24, ty_25, ty_26, ty_27, ty_28, ty_29, ty_30, ty_31, ty_32, ty_33, ty_34, ty_35, ty_36, ty_37, ty_38, ty_39, ty_40, ty_41, ty_42, ty_43, ty_44, ty_45, ty_46, ty_47, ty_48, ty_49, ty_50, ty_51, ty_52, ty_53, ty_54, ty_55, ty_56, ty_57, ty_58, ty_59, ty_60, ty_61, ty_62, ty_63, ty_64, ty_65, ty_66, ty_67, ty_68, ty_69, ty_70, ty_71, ty_72, ty_73, ty_74, ty_75, ty_76, ty_77, ty_78, ty_79, ty_80, ty_81, ty_82, ty_83, ty_84, ty_85, ty_86, ty_87, ty_88, ty_89, ty_90, ty_91, ty_92, ty_93, ty_94, ty_95, ty_96, ty_97, ty_98, ty_99, pl_3_10, pl_4_3, pl_5_3, pl_10_9, pl_10_11, pl_10_13, pl_13_1, pl_13_7, pl_16_6, pl_18_6, pl_19_1, pl_27_6, pl_27_11, pl_33_17, pl_35_4, pl_35_6, pl_36_10, pl_37_10, pl_39_3, pl_40_5, pl_40_11, pl_40_16, pl_40_17, pl_40_22, pl_40_23, pl_42_1, pl_42_3, pl_42_5, pl_42_8, pl_43_1, pl_43_3, pl_43_5, pl_43_8, pl_43_10, pl_43_13, pl_43_15, pl_43_18, pl_43_21, pl_46_3, pl_46_5, pl_46_6, pl_48_1, pl_48_2, pl_48_3, pl_52_1, lp, hty, hpl, g0, g3, g4, g5, g6, hil, hlt', hic, hat, k1, k2, h1, h2, hw] at hx
        rw [hR] at hx
        exact loop10_1 hty hpl h11 hb hV hbv l (j + 1) w out hx hd' hlt (by omega) hr (by simp [T.get_set_ite, g0]) (by simp [T.get_set_ite, g3]) (by simp [T.get_set_ite, g4]) (by simp [T.get_set_ite, g5]) (by simp [T.get_set_ite])
      | false =>
        simp [cdL_seq, cdL_region, cdL_drawn, cdL_cond, cdL_block, cdL_skip, cdL_label, cdL_exit, cdL_ret, endL, evSeq, evOne, evAct, evOp, opKind, evPure, evRead, evNew, evWrite, evSlice, natOf, optVal, readAt, AV.cells, wantedA, putTm, val, allVals, evBin, evInt, evStr, evAppend, denseFrom, sizesAre, onesIn, evPlan, recheck, AV.beq_refl, H.new, H.put, fillF, fillAt, allOne, AV.one, setArgs, evRes, resOf, ofVal, ofVal0, blt_dec, ble_dec, beq_dec, T.get_set_ite, T.get_e, isShift, ikBeq, ty_0, ty_1, ty_2, ty_3, ty_4, ty_5, ty_6, ty_7, ty_8, ty_9, ty_10, ty_11, ty_12, ty_13, ty_14, ty_15, ty_16, ty_17, ty_18, ty_19, ty_20, ty_21, ty_22, ty_23, ty_24, ty_25, ty_26, ty_27, ty_28, ty_29, ty_30, ty_31, ty_32, ty_33, ty_34, ty_35, ty_36, ty_37, ty_38, ty_39, ty_40, ty_41, ty_42, ty_43, ty_44, ty_45, ty_46, ty_47, ty_48, ty_49, ty_50, ty_51, ty_52, ty_53, ty_54, ty_55, ty_56, ty_57, ty_58, ty_59, ty_60, ty_61, ty_62, ty_63, ty_64, ty_65, ty_66, ty_67, ty_68, ty_69, ty_70, ty_71, ty_72, ty_73, ty_74, ty_75, ty_76, ty_77, ty_78, ty_79, ty_80, ty_81, ty_82, ty_83, ty_84, ty_85, ty_86, ty_87, ty_88, ty_89, ty_90, ty_91, ty_92, ty_93, ty_94, ty_95, ty_96, ty_97, ty_98, ty_99, pl_3_10, pl_4_3, pl_5_3, pl_10_9, pl_10_11, pl_10_13, pl_13_1, pl_13_7, pl_16_6, pl_18_6, pl_19_1, pl_27_6, pl_27_11, pl_33_17, pl_35_4, pl_35_6, pl_36_10, pl_37_10, pl_39_3, pl_40_5, pl_40_11, pl_40_16, pl_40_17, pl_40_22, pl_40_23, pl_42_1, pl_42_3, pl_42_5, pl_42_8, pl_43_1, pl_43_3, pl_43_5, pl_43_8, pl_43_10, pl_43_13, pl_43_15, pl_43_18, pl_43_21, pl_46_3, pl_46_5, pl_46_6, pl_48_1, pl_48_2, pl_48_3, pl_52_1, lp, hty, hpl, g0, g3, g4, g5, g6, hil, hlt', hic, hat, k1, k2, h1, h2, hw, -evAppend] at hx
        have tw := take_while_len out v
        obtain ⟨K, hK⟩ : ∃ K, K = (out.takeWhile (fun y => ltI y v)).length := ⟨_, rfl⟩
        have hKl : K ≤ out.length := by have := insF_len out v; simp only [insF, List.length_append, List.length_cons] at this; omega
        rw [← hK] at tw
        have hdr : (out.drop K).length = out.length - K := List.length_drop
        have htk : (out.take K).length = K := by rw [List.length_take]; omega
        generalize hy : cdL E 10 79 (.loop b10_2) _ _ = y at hx
        obtain ⟨tm2, rfl, q7, qk⟩ := loop10_2 hty hpl (o := w) (out := out) (V := V) (j := j) (v := v) (by omega) hc out 0 hy rfl (Nat.zero_le _) (by simp [T.get_set_ite, g3]) (by simp [T.get_set_ite, g5]) (by simp [T.get_set_ite, g6]) (by simp [T.get_set_ite])
        rw [← hK, Nat.zero_add] at q7
        have p0 := qk 0 (by omega) (by omega)
        have p3 := qk 3 (by omega) (by omega)
        have p4 := qk 4 (by omega) (by omega)
        have p5 := qk 5 (by omega) (by omega)
        have p6 := qk 6 (by omega) (by omega)
        simp [T.get_set_ite, g0, g3, g4, g5, g6] at p0 p3 p4 p5 p6
        obtain ⟨w1, ha1, e1, r1⟩ := app_ints (h := h) (w := .full) (xs := []) (ys := out.take K) (by simp; omega) (.inl ⟨rfl, rfl⟩)
        rw [List.nil_append] at e1 r1
        obtain ⟨w2, ha2, e2, r2⟩ := app_ints (ys := [v]) (by simp; omega) r1
        obtain ⟨w3, ha3, e3, r3⟩ := app_ints (ys := out.drop K) (by simp; omega) r2
        have hins : out.take K ++ [v] ++ out.drop K = insF out v := by rw [tw.1, tw.2]; simp [insF]
        rw [hins] at e3 r3
        have z1 : (ints out).take K = ints (out.take K) := by simp [ints, List.map_take]
        have z2 : (ints out).drop K = ints (out.drop K) := by simp [ints, List.map_drop]
        have z3 : (ints (out.drop K)).take (out.length - K) = ints (out.drop K) := List.take_of_length_le (by rw [ints_len, hdr]; exact Nat.le_refl _)
        have z0 : ints [] = [] := rfl
        have zv : ints [v] = [.int .i64 v] := rfl
        have b1 : Nat.ble K out.length = true := by rw [Nat.ble_eq]; exact hKl
        have b2 : Nat.ble K K = true := by rw [Nat.ble_eq]; exact Nat.le_refl K
        have so := ints_sizes out
        rw [z0] at e1
        rw [zv] at e2
        simp [cdL_seq, cdL_region, cdL_drawn, cdL_cond, cdL_block, cdL_skip, cdL_label, cdL_exit, cdL_ret, endL, evSeq, evOne, evAct, evOp, opKind, evPure, evRead, evNew, evWrite, evSlice, natOf, optVal, readAt, AV.cells, wantedA, putTm, val, allVals, evBin, evInt, evStr, evAppend, denseFrom, sizesAre, onesIn, evPlan, recheck, AV.beq_refl, H.new, H.put, fillF, fillAt, allOne, AV.one, setArgs, evRes, resOf, ofVal, ofVal0, blt_dec, ble_dec, beq_dec, T.get_set_ite, T.get_e, isShift, ikBeq, ty_0, ty_1, ty_2, ty_3, ty_4, ty_5, ty_6, ty_7, ty_8, ty_9, ty_10, ty_11, ty_12, ty_13, ty_14, ty_15, ty_16, ty_17, ty_18, ty_19, ty_20, ty_21, ty_22, ty_23, ty_24, ty_25, ty_26, ty_27, ty_28, ty_29, ty_30, ty_31, ty_32, ty_33, ty_34, ty_35, ty_36, ty_37, ty_38, ty_39, ty_40, ty_41, ty_42, ty_43, ty_44, ty_45, ty_46, ty_47, ty_48, ty_49, ty_50, ty_51, ty_52, ty_53, ty_54, ty_55, ty_56, ty_57, ty_58, ty_59, ty_60, ty_61, ty_62, ty_63, ty_64, ty_65, ty_66, ty_67, ty_68, ty_69, ty_70, ty_71, ty_72, ty_73, ty_74, ty_75, ty_76, ty_77, ty_78, ty_79, ty_80, ty_81, ty_82, ty_83, ty_84, ty_85, ty_86, ty_87, ty_88, ty_89, ty_90, ty_91, ty_92, ty_93, ty_94, ty_95, ty_96, ty_97, ty_98, ty_99, pl_3_10, pl_4_3, pl_5_3, pl_10_9, pl_10_11, pl_10_13, pl_13_1, pl_13_7, pl_16_6, pl_18_6, pl_19_1, pl_27_6, pl_27_11, pl_33_17, pl_35_4, pl_35_6, pl_36_10, pl_37_10, pl_39_3, pl_40_5, pl_40_11, pl_40_16, pl_40_17, pl_40_22, pl_40_23, pl_42_1, pl_42_3, pl_42_5, pl_42_8, pl_43_1, pl_43_3, pl_43_5, pl_43_8, pl_43_10, pl_43_13, pl_43_15, pl_43_18, pl_43_21, pl_46_3, pl_46_5, pl_46_6, pl_48_1, pl_48_2, pl_48_3, pl_52_1, hty, hpl, p0, p3, p4, p5, p6, q7, hol, hic, so, evSlice, natOf, b1, b2, hKl, z1, z2, z3, e1, e2, e3, hw, -evAppend] at hx
        rw [hR] at hx
        exact loop10_1 hty hpl h11 hb hV hbv l (j + 1) w3 (insF out v) hx hd' hlt (by rw [insF_len]; omega) r3 (by simp [T.get_set_ite, p0]) (by simp [T.get_set_ite]) (by simp [T.get_set_ite, p4]) (by simp [T.get_set_ite, p5]) (by simp [T.get_set_ite])
end Go.Proofs.Ytcmbpfobdgijjaa.Env
