/- The law TreeMany. -/
import Derived.Test.YtmnhhlkbpjemnaaDoorTZ
set_option autoImplicit false
set_option maxRecDepth 100000
set_option maxHeartbeats 4000000
set_option linter.unusedSimpArgs false
set_option linter.unusedVariables false
namespace Go.Proofs.YtmnhhlkbpjemnaaDoor.Env
open Go.Ev Go.Ev.Nd Go.Proofs.YtmnhhlkbpjemnaaDoor.Lx

def refN : Nat → Nd
  | 0 => .mk [117, 110, 105, 116] [] [] 0 0 []
  | k + 1 => .mk [114, 101, 102] [] [] 0 0 [refN k]
def nm : Nat → List Nat
  | 0 => [117, 110, 105, 116]
  | _ + 1 => [114, 101, 102]
def kd : Nat → List AV
  | 0 => []
  | k + 1 => [.agg [.str (nm k), .str [], .str [], .int .i64 0, .int .i64 0, .sl .full (kd k)]]
theorem ref_wk : ∀ k : Nat, (AV.agg [.str (nm k), .str [], .str [], .int .i64 0, .int .i64 0, .sl .full (kd k)]).wk 0 (refN k).av
  | 0 => by simp only [nm, kd, refN, Nd.av, avs, wk_agg, wk_tup, wk_sl, wks_cons, wks_nil, wk_int, wk_str, wk_bool, own_no, and_self]
  | k + 1 => by
    have := ref_wk k
    show (AV.agg [.str [114, 101, 102], .str [], .str [], .int .i64 0, .int .i64 0, .sl .full [.agg [.str (nm k), .str [], .str [], .int .i64 0, .int .i64 0, .sl .full (kd k)]]]).wk 0 (.agg [.str [114, 101, 102], .str [], .str [], .int .i64 0, .int .i64 0, .sl .no [(refN k).av]])
    simp only [wk_agg, wk_tup, wk_sl, wks_cons, wks_nil, wk_int, wk_str, wk_bool, own_no, this, and_self]
theorem ref_fit : ∀ k : Nat, fit (refN k)
  | 0 => by simp [refN, fit, fits, okS]
  | k + 1 => by
    have := ref_fit k
    simp [refN, fit, fits, okS, this]
theorem ref_each : ∀ k : Nat, eachF (refN k) = true
  | 0 => by kernel_rfl
  | k + 1 => by
    simp only [refN, eachF, eachL, ref_each k]
    kernel_rfl
theorem ref_sz : ∀ (k : Nat) (m : Int), 1 ≤ m → szF (refN k) m = min ((k : Int) + 1) m
  | 0, m, h => by simp only [refN, szF, szL]; omega
  | k + 1, m, h => by
    simp only [refN, szF, szL]
    cases hb : ltI 1 m with
    | false =>
      have : ¬ 1 < m := by rw [ltI_eq] at hb; simpa using hb
      simp only [cond_false]
      omega
    | true =>
      have : 1 < m := by rw [ltI_eq] at hb; simpa using hb
      simp only [cond_true]
      rw [ref_sz k (m - 1) (by omega)]
      omega
theorem ref_size (k : Nat) : sizeF (refN k) = min ((k : Int) + 1) 2001 := ref_sz k 2001 (by omega)
theorem ref_is (k : Nat) : isR (refN k) = !ltI 2000 ((k : Int) + 1) := by
  unfold isR
  rw [ref_each, ref_size]
  have : ltI 2000 (min ((k : Int) + 1) 2001) = ltI 2000 ((k : Int) + 1) := by
    rw [ltI_eq, ltI_eq]
    simp only [decide_eq_decide]
    omega
  rw [this]
  cases ltI 2000 ((k : Int) + 1) <;> rfl
noncomputable def b5_0 : Code := loopOf Tryd.f5 0
theorem body5 : Tryd.f5.body = some (.seq (codeAt Tryd.f5 [0]) (.seq (codeAt Tryd.f5 [1, 0]) (.seq (codeAt Tryd.f5 [1, 1, 0]) (.seq (.seq (codeAt Tryd.f5 [1, 1, 1, 0, 0]) (.block 0 (.loop b5_0))) (codeAt Tryd.f5 [1, 1, 1, 1]))))) := rfl
theorem loop5 {N : Nat} (hN : N ≤ 3000) : ∀ (f j : Nat) {tm : Tm} {h : H} {x : Option (Ex × Tm × H)}, cdL eL 5 43 (.loop b5_0) tm h = x → N - (j + 1) ≤ f → j + 1 ≤ N →
    tm.get 0 = some (.int .i64 ↑N) → tm.get 3 = some (.ptr (some (0, 0))) → tm.get 4 = some (.int .i64 ↑(j + 1)) → h.t.get 0 = some (.cells [.str (nm j), .str [], .str [], .int .i64 0, .int .i64 0, .sl .full (kd j)]) →
    ∃ tm' h', x = some (.exit 0, tm', h') ∧ tm'.get 0 = some (.int .i64 ↑N) ∧ tm'.get 3 = some (.ptr (some (0, 0))) ∧ h'.t.get 0 = some (.cells [.str (nm (N - 1)), .str [], .str [], .int .i64 0, .int .i64 0, .sl .full (kd (N - 1))])
  | f, j, tm, h, x, hx, hf, hj, h0, h3, h4, hz => by
    obtain ⟨R, hR, hx⟩ := loop_step hx
    by_cases hlt : j + 1 < N
    · have hlt' : ltI ↑(j + 1) ↑N = true := ltI_t hlt
      have hw := wr_succ (i := j + 1) (by omega)
      match f, hf with
      | 0, hf => omega
      | f + 1, hf =>
        push_cast at hlt' h4 hw
        simp [b5_0, loopOf, Tryd.f5, loops, cdL_seq, cdL_region, cdL_drawn, cdL_cond, cdL_block, cdL_skip, cdL_label, cdL_exit, cdL_ret, endL, evSeq, evOne, evAct, evOp, opKind, evPure, evRead, evNew, evWrite, evSlice, natOf, optVal, readAt, AV.cells, wantedA, putTm, val, allVals, evBin, evInt, evStr, evAppend, evMin, denseFrom, sizesAre, onesIn, evPlan, recheck, AV.beq_refl, H.new, H.put, fillF, fillAt, allOne, AV.one, setArgs, evRes, resOf, ofVal, ofVal0, blt_dec, ble_dec, beq_dec, T.get_set_ite, T.get_e, isShift, ikBeq, ty_0, ty_1, ty_2, ty_3, ty_4, ty_5, ty_6, ty_7, ty_8, ty_9, ty_10, ty_11, ty_12, ty_13, ty_14, ty_15, ty_16, ty_17, ty_18, ty_19, ty_20, ty_21, ty_22, ty_23, ty_24, ty_25, ty_26, ty_27, ty_28, ty_29, ty_30, ty_31, ty_32, ty_33, ty_34, ty_35, ty_36, ty_37, ty_38, ty_39, ty_40, ty_41, ty_42, ty_43, ty_44, ty_45, ty_46, ty_47, ty_48, ty_49, ty_50, ty_51, ty_52, ty_53, ty_54, ty_55, ty_56, ty_57, ty_58, ty_59, ty_60, ty_61, ty_62, ty_63, ty_64, ty_65, ty_66, ty_67, ty_68, ty_69, ty_70, ty_71, ty_72, ty_73, ty_74, ty_75, ty_76, ty_77, ty_78, ty_79, ty_80, ty_81, ty_82, ty_83, ty_84, ty_85, ty_86, ty_87, ty_88, ty_89, ty_90, ty_91, ty_92, ty_93, ty_94, ty_95, ty_96, ty_97, ty_98, ty_99, ty_100, ty_101, ty_102, ty_103, ty_104, ty_105, ty_106, ty_107, ty_108, ty_109, ty_110, ty_111, ty_112, ty_113, ty_114, ty_115, ty_116, ty_117, ty_118, ty_119, ty_120, ty_121, ty_122, ty_123, ty_124, ty_125, ty_126, ty_127, ty_128, ty_129, pl_3_4, pl_4_3, pl_6_5, pl_9_1, pl_14_6, pl_18_6, pl_20_1, pl_29_6, pl_29_11, pl_30_3, pl_30_5, pl_30_9, pl_33_1, pl_33_10, pl_38_17, pl_46_4, pl_46_6, pl_47_10, pl_48_10, pl_50_3, pl_51_5, pl_51_11, pl_51_16, pl_51_17, pl_51_22, pl_51_23, pl_53_1, pl_53_3, pl_53_5, pl_53_8, pl_54_1, pl_54_3, pl_54_5, pl_54_8, pl_54_10, pl_54_13, pl_54_15, pl_54_18, pl_54_21, pl_60_3, pl_60_5, pl_60_6, pl_62_1, pl_62_2, pl_62_3, pl_69_1, pl_72_3, pl_88_9, pl_88_18, pl_89_9, lp, eLty, eLpl, bytesOf, h0, h3, h4, hz, hlt', hw] at hx
        rw [hR] at hx
        exact loop5 hN f (j + 1) hx (by omega) (by omega) (by simp [T.get_set_ite, h0]) (by simp [T.get_set_ite, h3]) (by simp [T.get_set_ite]) (by simp [T.get_set_ite, nm, kd])
    · have hn : N = j + 1 := by omega
      subst hn
      have hlt' : ltI ↑(j + 1) ↑(j + 1) = false := ltI_f (Nat.le_refl _)
      push_cast at hlt' h4 h0
      simp [b5_0, loopOf, Tryd.f5, loops, cdL_seq, cdL_region, cdL_drawn, cdL_cond, cdL_block, cdL_skip, cdL_label, cdL_exit, cdL_ret, endL, evSeq, evOne, evAct, evOp, opKind, evPure, evRead, evNew, evWrite, evSlice, natOf, optVal, readAt, AV.cells, wantedA, putTm, val, allVals, evBin, evInt, evStr, evAppend, evMin, denseFrom, sizesAre, onesIn, evPlan, recheck, AV.beq_refl, H.new, H.put, fillF, fillAt, allOne, AV.one, setArgs, evRes, resOf, ofVal, ofVal0, blt_dec, ble_dec, beq_dec, T.get_set_ite, T.get_e, isShift, ikBeq, ty_0, ty_1, ty_2, ty_3, ty_4, ty_5, ty_6, ty_7, ty_8, ty_9, ty_10, ty_11, ty_12, ty_13, ty_14, ty_15, ty_16, ty_17, ty_18, ty_19, ty_20, ty_21, ty_22, ty_23, ty_24, ty_25, ty_26, ty_27, ty_28, ty_29, ty_30, ty_31, ty_32, ty_33, ty_34, ty_35, ty_36, ty_37, ty_38, ty_39, ty_40, ty_41, ty_42, ty_43, ty_44, ty_45, ty_46, ty_47, ty_48, ty_49, ty_50, ty_51, ty_52, ty_53, ty_54, ty_55, ty_56, ty_57, ty_58, ty_59, ty_60, ty_61, ty_62, ty_63, ty_64, ty_65, ty_66, ty_67, ty_68, ty_69, ty_70, ty_71, ty_72, ty_73, ty_74, ty_75, ty_76, ty_77, ty_78, ty_79, ty_80, ty_81, ty_82, ty_83, ty_84, ty_85, ty_86, ty_87, ty_88, ty_89, ty_90, ty_91, ty_92, ty_93, ty_94, ty_95, ty_96, ty_97, ty_98, ty_99, ty_100, ty_101, ty_102, ty_103, ty_104, ty_105, ty_106, ty_107, ty_108, ty_109, ty_110, ty_111, ty_112, ty_113, ty_114, ty_115, ty_116, ty_117, ty_118, ty_119, ty_120, ty_121, ty_122, ty_123, ty_124, ty_125, ty_126, ty_127, ty_128, ty_129, pl_3_4, pl_4_3, pl_6_5, pl_9_1, pl_14_6, pl_18_6, pl_20_1, pl_29_6, pl_29_11, pl_30_3, pl_30_5, pl_30_9, pl_33_1, pl_33_10, pl_38_17, pl_46_4, pl_46_6, pl_47_10, pl_48_10, pl_50_3, pl_51_5, pl_51_11, pl_51_16, pl_51_17, pl_51_22, pl_51_23, pl_53_1, pl_53_3, pl_53_5, pl_53_8, pl_54_1, pl_54_3, pl_54_5, pl_54_8, pl_54_10, pl_54_13, pl_54_15, pl_54_18, pl_54_21, pl_60_3, pl_60_5, pl_60_6, pl_62_1, pl_62_2, pl_62_3, pl_69_1, pl_72_3, pl_88_9, pl_88_18, pl_89_9, lp, eLty, eLpl, bytesOf, h0, h3, h4, hlt'] at hx
      exact ⟨_, _, hx.symm, by simp [T.get_set_ite, h0], by simp [T.get_set_ite, h3], hz⟩
/-- TreeMany. -/
theorem law5 (n : Int) : ∃ h1, evL eL 5 [.int .i64 n] ⟨.e, 0⟩ = some (.bool true, h1) := by
  rw [evL_fn eL (by kernel_rfl) (by kernel_rfl) body5 _ _ rfl]
  cases h1 : ltI n 1 with
  | true =>
    simp only [codeAt, sub, Tryd.f5]
    simp [cdL_seq, cdL_region, cdL_drawn, cdL_cond, cdL_block, cdL_skip, cdL_label, cdL_exit, cdL_ret, endL, evSeq, evOne, evAct, evOp, opKind, evPure, evRead, evNew, evWrite, evSlice, natOf, optVal, readAt, AV.cells, wantedA, putTm, val, allVals, evBin, evInt, evStr, evAppend, evMin, denseFrom, sizesAre, onesIn, evPlan, recheck, AV.beq_refl, H.new, H.put, fillF, fillAt, allOne, AV.one, setArgs, evRes, resOf, ofVal, ofVal0, blt_dec, ble_dec, beq_dec, T.get_set_ite, T.get_e, isShift, ikBeq, ty_0, ty_1, ty_2, ty_3, ty_4, ty_5, ty_6, ty_7, ty_8, ty_9, ty_10, ty_11, ty_12, ty_13, ty_14, ty_15, ty_16, ty_17, ty_18, ty_19, ty_20, ty_21, ty_22, ty_23, ty_24, ty_25, ty_26, ty_27, ty_28, ty_29, ty_30, ty_31, ty_32, ty_33, ty_34, ty_35, ty_36, ty_37, ty_38, ty_39, ty_40, ty_41, ty_42, ty_43, ty_44, ty_45, ty_46, ty_47, ty_48, ty_49, ty_50, ty_51, ty_52, ty_53, ty_54, ty_55, ty_56, ty_57, ty_58, ty_59, ty_60, ty_61, ty_62, ty_63, ty_64, ty_65, ty_66, ty_67, ty_68, ty_69, ty_70, ty_71, ty_72, ty_73, ty_74, ty_75, ty_76, ty_77, ty_78, ty_79, ty_80, ty_81, ty_82, ty_83, ty_84, ty_85, ty_86, ty_87, ty_88, ty_89, ty_90, ty_91, ty_92, ty_93, ty_94, ty_95, ty_96, ty_97, ty_98, ty_99, ty_100, ty_101, ty_102, ty_103, ty_104, ty_105, ty_106, ty_107, ty_108, ty_109, ty_110, ty_111, ty_112, ty_113, ty_114, ty_115, ty_116, ty_117, ty_118, ty_119, ty_120, ty_121, ty_122, ty_123, ty_124, ty_125, ty_126, ty_127, ty_128, ty_129, pl_3_4, pl_4_3, pl_6_5, pl_9_1, pl_14_6, pl_18_6, pl_20_1, pl_29_6, pl_29_11, pl_30_3, pl_30_5, pl_30_9, pl_33_1, pl_33_10, pl_38_17, pl_46_4, pl_46_6, pl_47_10, pl_48_10, pl_50_3, pl_51_5, pl_51_11, pl_51_16, pl_51_17, pl_51_22, pl_51_23, pl_53_1, pl_53_3, pl_53_5, pl_53_8, pl_54_1, pl_54_3, pl_54_5, pl_54_8, pl_54_10, pl_54_13, pl_54_15, pl_54_18, pl_54_21, pl_60_3, pl_60_5, pl_60_6, pl_62_1, pl_62_2, pl_62_3, pl_69_1, pl_72_3, pl_88_9, pl_88_18, pl_89_9, eLty, eLpl, evEq, h1]
  | false =>
    cases h2 : ltI 2003 n with
    | true =>
      simp only [codeAt, sub, Tryd.f5]
      simp [cdL_seq, cdL_region, cdL_drawn, cdL_cond, cdL_block, cdL_skip, cdL_label, cdL_exit, cdL_ret, endL, evSeq, evOne, evAct, evOp, opKind, evPure, evRead, evNew, evWrite, evSlice, natOf, optVal, readAt, AV.cells, wantedA, putTm, val, allVals, evBin, evInt, evStr, evAppend, evMin, denseFrom, sizesAre, onesIn, evPlan, recheck, AV.beq_refl, H.new, H.put, fillF, fillAt, allOne, AV.one, setArgs, evRes, resOf, ofVal, ofVal0, blt_dec, ble_dec, beq_dec, T.get_set_ite, T.get_e, isShift, ikBeq, ty_0, ty_1, ty_2, ty_3, ty_4, ty_5, ty_6, ty_7, ty_8, ty_9, ty_10, ty_11, ty_12, ty_13, ty_14, ty_15, ty_16, ty_17, ty_18, ty_19, ty_20, ty_21, ty_22, ty_23, ty_24, ty_25, ty_26, ty_27, ty_28, ty_29, ty_30, ty_31, ty_32, ty_33, ty_34, ty_35, ty_36, ty_37, ty_38, ty_39, ty_40, ty_41, ty_42, ty_43, ty_44, ty_45, ty_46, ty_47, ty_48, ty_49, ty_50, ty_51, ty_52, ty_53, ty_54, ty_55, ty_56, ty_57, ty_58, ty_59, ty_60, ty_61, ty_62, ty_63, ty_64, ty_65, ty_66, ty_67, ty_68, ty_69, ty_70, ty_71, ty_72, ty_73, ty_74, ty_75, ty_76, ty_77, ty_78, ty_79, ty_80, ty_81, ty_82, ty_83, ty_84, ty_85, ty_86, ty_87, ty_88, ty_89, ty_90, ty_91, ty_92, ty_93, ty_94, ty_95, ty_96, ty_97, ty_98, ty_99, ty_100, ty_101, ty_102, ty_103, ty_104, ty_105, ty_106, ty_107, ty_108, ty_109, ty_110, ty_111, ty_112, ty_113, ty_114, ty_115, ty_116, ty_117, ty_118, ty_119, ty_120, ty_121, ty_122, ty_123, ty_124, ty_125, ty_126, ty_127, ty_128, ty_129, pl_3_4, pl_4_3, pl_6_5, pl_9_1, pl_14_6, pl_18_6, pl_20_1, pl_29_6, pl_29_11, pl_30_3, pl_30_5, pl_30_9, pl_33_1, pl_33_10, pl_38_17, pl_46_4, pl_46_6, pl_47_10, pl_48_10, pl_50_3, pl_51_5, pl_51_11, pl_51_16, pl_51_17, pl_51_22, pl_51_23, pl_53_1, pl_53_3, pl_53_5, pl_53_8, pl_54_1, pl_54_3, pl_54_5, pl_54_8, pl_54_10, pl_54_13, pl_54_15, pl_54_18, pl_54_21, pl_60_3, pl_60_5, pl_60_6, pl_62_1, pl_62_2, pl_62_3, pl_69_1, pl_72_3, pl_88_9, pl_88_18, pl_89_9, eLty, eLpl, evEq, h1, h2]
    | false =>
      have hn1 : 1 ≤ n ∧ n ≤ 2003 := by rw [ltI_eq] at h1 h2; simp at h1 h2; omega
      obtain ⟨N, rfl⟩ : ∃ N : Nat, n = ↑N := ⟨n.toNat, by omega⟩
      have main : ltI 20 (↑N : Int) = false ∨ ltI (↑N : Int) 1998 = false → ∃ h1, endL eL.ty Tryd.f5.results.toList (cdL eL 5 43 (.seq (codeAt Tryd.f5 [0]) (.seq (codeAt Tryd.f5 [1, 0]) (.seq (codeAt Tryd.f5 [1, 1, 0]) (.seq (.seq (codeAt Tryd.f5 [1, 1, 1, 0, 0]) (.block 0 (.loop b5_0))) (codeAt Tryd.f5 [1, 1, 1, 1]))))) (setArgs 0 [.int .i64 ↑N] .e) ⟨.e, 0⟩) = some (.bool true, h1) := by
        intro hor
        have k9 := fun h => L9 (ref_fit (N - 1)) (ref_wk (N - 1)) h
        have k12 := fun h => L12 (ref_fit (N - 1)) (ref_wk (N - 1)) h
        rw [ref_is] at k9
        rw [ref_size] at k12
        rw [show (↑(N - 1) + 1 : Int) = ↑N by omega] at k9 k12
        have hmin : min (↑N : Int) 2001 = bif ltI 2001 ↑N then 2001 else ↑N := by
          cases hb : ltI 2001 (↑N : Int) with
          | true => rw [ltI_eq] at hb; simp at hb; simp only [cond_true]; omega
          | false => rw [ltI_eq] at hb; simp at hb; simp only [cond_false]; omega
        rw [hmin] at k12
        have hii : ∀ i : Int, intBeq i i = true := fun i => intBeq_iff'.2 rfl
        have hc : (bif ltI 20 (↑N : Int) then ltI ↑N 1998 else false) = false := by rcases hor with h | h <;> rw [h] <;> cases ltI 20 (↑N : Int) <;> rfl
        simp only [codeAt, sub, Tryd.f5]
        cases h3 : ltI 20 (↑N : Int) with
        | false =>
          simp [cdL_seq, cdL_region, cdL_drawn, cdL_cond, cdL_block, cdL_skip, cdL_label, cdL_exit, cdL_ret, endL, evSeq, evOne, evAct, evOp, opKind, evPure, evRead, evNew, evWrite, evSlice, natOf, optVal, readAt, AV.cells, wantedA, putTm, val, allVals, evBin, evInt, evStr, evAppend, evMin, denseFrom, sizesAre, onesIn, evPlan, recheck, AV.beq_refl, H.new, H.put, fillF, fillAt, allOne, AV.one, setArgs, evRes, resOf, ofVal, ofVal0, blt_dec, ble_dec, beq_dec, T.get_set_ite, T.get_e, isShift, ikBeq, ty_0, ty_1, ty_2, ty_3, ty_4, ty_5, ty_6, ty_7, ty_8, ty_9, ty_10, ty_11, ty_12, ty_13, ty_14, ty_15, ty_16, ty_17, ty_18, ty_19, ty_20, ty_21, ty_22, ty_23, ty_24, ty_25, ty_26, ty_27, ty_28, ty_29, ty_30, ty_31, ty_32, ty_33, ty_34, ty_35, ty_36, ty_37, ty_38, ty_39, ty_40, ty_41, ty_42, ty_43, ty_44, ty_45, ty_46, ty_47, ty_48, ty_49, ty_50, ty_51, ty_52, ty_53, ty_54, ty_55, ty_56, ty_57, ty_58, ty_59, ty_60, ty_61, ty_62, ty_63, ty_64, ty_65, ty_66, ty_67, ty_68, ty_69, ty_70, ty_71, ty_72, ty_73, ty_74, ty_75, ty_76, ty_77, ty_78, ty_79, ty_80, ty_81, ty_82, ty_83, ty_84, ty_85, ty_86, ty_87, ty_88, ty_89, ty_90, ty_91, ty_92, ty_93, ty_94, ty_95, ty_96, ty_97, ty_98, ty_99, ty_100, ty_101, ty_102, ty_103, ty_104, ty_105, ty_106, ty_107, ty_108, ty_109, ty_110, ty_111, ty_112, ty_113, ty_114, ty_115, ty_116, ty_117, ty_118, ty_119, ty_120, ty_121, ty_122, ty_123, ty_124, ty_125, ty_126, ty_127, ty_128, ty_129, pl_3_4, pl_4_3, pl_6_5, pl_9_1, pl_14_6, pl_18_6, pl_20_1, pl_29_6, pl_29_11, pl_30_3, pl_30_5, pl_30_9, pl_33_1, pl_33_10, pl_38_17, pl_46_4, pl_46_6, pl_47_10, pl_48_10, pl_50_3, pl_51_5, pl_51_11, pl_51_16, pl_51_17, pl_51_22, pl_51_23, pl_53_1, pl_53_3, pl_53_5, pl_53_8, pl_54_1, pl_54_3, pl_54_5, pl_54_8, pl_54_10, pl_54_13, pl_54_15, pl_54_18, pl_54_21, pl_60_3, pl_60_5, pl_60_6, pl_62_1, pl_62_2, pl_62_3, pl_69_1, pl_72_3, pl_88_9, pl_88_18, pl_89_9, eLty, eLpl, evEq, bytesOf, h1, h2, h3]
          generalize hx : cdL eL 5 43 (.loop b5_0) _ _ = x
          obtain ⟨tm', h', rfl, g0, g3, gz⟩ := loop5 (N := N) (by omega) N 0 hx (by omega) (by omega) (by simp [T.get_set_ite]) (by simp [T.get_set_ite]) (by simp [T.get_set_ite]) (by simp [T.get_set_ite, nm, kd])
          cases h5 : ltI 2000 (↑N : Int) <;> rw [h5] at k9 <;> simp [cdL_seq, cdL_region, cdL_drawn, cdL_cond, cdL_block, cdL_skip, cdL_label, cdL_exit, cdL_ret, endL, evSeq, evOne, evAct, evOp, opKind, evPure, evRead, evNew, evWrite, evSlice, natOf, optVal, readAt, AV.cells, wantedA, putTm, val, allVals, evBin, evInt, evStr, evAppend, evMin, denseFrom, sizesAre, onesIn, evPlan, recheck, AV.beq_refl, H.new, H.put, fillF, fillAt, allOne, AV.one, setArgs, evRes, resOf, ofVal, ofVal0, blt_dec, ble_dec, beq_dec, T.get_set_ite, T.get_e, isShift, ikBeq, ty_0, ty_1, ty_2, ty_3, ty_4, ty_5, ty_6, ty_7, ty_8, ty_9, ty_10, ty_11, ty_12, ty_13, ty_14, ty_15, ty_16, ty_17, ty_18, ty_19, ty_20, ty_21, ty_22, ty_23, ty_24, ty_25, ty_26, ty_27, ty_28, ty_29, ty_30, ty_31, ty_32, ty_33, ty_34, ty_35, ty_36, ty_37, ty_38, ty_39, ty_40, ty_41, ty_42, ty_43, ty_44, ty_45, ty_46, ty_47, ty_48, ty_49, ty_50, ty_51, ty_52, ty_53, ty_54, ty_55, ty_56, ty_57, ty_58, ty_59, ty_60, ty_61, ty_62, ty_63, ty_64, ty_65, ty_66, ty_67, ty_68, ty_69, ty_70, ty_71, ty_72, ty_73, ty_74, ty_75, ty_76, ty_77, ty_78, ty_79, ty_80, ty_81, ty_82, ty_83, ty_84, ty_85, ty_86, ty_87, ty_88, ty_89, ty_90, ty_91, ty_92, ty_93, ty_94, ty_95, ty_96, ty_97, ty_98, ty_99, ty_100, ty_101, ty_102, ty_103, ty_104, ty_105, ty_106, ty_107, ty_108, ty_109, ty_110, ty_111, ty_112, ty_113, ty_114, ty_115, ty_116, ty_117, ty_118, ty_119, ty_120, ty_121, ty_122, ty_123, ty_124, ty_125, ty_126, ty_127, ty_128, ty_129, pl_3_4, pl_4_3, pl_6_5, pl_9_1, pl_14_6, pl_18_6, pl_20_1, pl_29_6, pl_29_11, pl_30_3, pl_30_5, pl_30_9, pl_33_1, pl_33_10, pl_38_17, pl_46_4, pl_46_6, pl_47_10, pl_48_10, pl_50_3, pl_51_5, pl_51_11, pl_51_16, pl_51_17, pl_51_22, pl_51_23, pl_53_1, pl_53_3, pl_53_5, pl_53_8, pl_54_1, pl_54_3, pl_54_5, pl_54_8, pl_54_10, pl_54_13, pl_54_15, pl_54_18, pl_54_21, pl_60_3, pl_60_5, pl_60_6, pl_62_1, pl_62_2, pl_62_3, pl_69_1, pl_72_3, pl_88_9, pl_88_18, pl_89_9, eLty, eLpl, evEq, g0, g3, gz, k9, k12, L13, hii, h5]
        | true =>
          have h4 : ltI (↑N : Int) 1998 = false := by
            rcases hor with h | h
            · rw [h] at h3; cases h3
            · exact h
          simp [cdL_seq, cdL_region, cdL_drawn, cdL_cond, cdL_block, cdL_skip, cdL_label, cdL_exit, cdL_ret, endL, evSeq, evOne, evAct, evOp, opKind, evPure, evRead, evNew, evWrite, evSlice, natOf, optVal, readAt, AV.cells, wantedA, putTm, val, allVals, evBin, evInt, evStr, evAppend, evMin, denseFrom, sizesAre, onesIn, evPlan, recheck, AV.beq_refl, H.new, H.put, fillF, fillAt, allOne, AV.one, setArgs, evRes, resOf, ofVal, ofVal0, blt_dec, ble_dec, beq_dec, T.get_set_ite, T.get_e, isShift, ikBeq, ty_0, ty_1, ty_2, ty_3, ty_4, ty_5, ty_6, ty_7, ty_8, ty_9, ty_10, ty_11, ty_12, ty_13, ty_14, ty_15, ty_16, ty_17, ty_18, ty_19, ty_20, ty_21, ty_22, ty_23, ty_24, ty_25, ty_26, ty_27, ty_28, ty_29, ty_30, ty_31, ty_32, ty_33, ty_34, ty_35, ty_36, ty_37, ty_38, ty_39, ty_40, ty_41, ty_42, ty_43, ty_44, ty_45, ty_46, ty_47, ty_48, ty_49, ty_50, ty_51, ty_52, ty_53, ty_54, ty_55, ty_56, ty_57, ty_58, ty_59, ty_60, ty_61, ty_62, ty_63, ty_64, ty_65, ty_66, ty_67, ty_68, ty_69, ty_70, ty_71, ty_72, ty_73, ty_74, ty_75, ty_76, ty_77, ty_78, ty_79, ty_80, ty_81, ty_82, ty_83, ty_84, ty_85, ty_86, ty_87, ty_88, ty_89, ty_90, ty_91, ty_92, ty_93, ty_94, ty_95, ty_96, ty_97, ty_98, ty_99, ty_100, ty_101, ty_102, ty_103, ty_104, ty_105, ty_106, ty_107, ty_108, ty_109, ty_110, ty_111, ty_112, ty_113, ty_114, ty_115, ty_116, ty_117, ty_118, ty_119, ty_120, ty_121, ty_122, ty_123, ty_124, ty_125, ty_126, ty_127, ty_128, ty_129, pl_3_4, pl_4_3, pl_6_5, pl_9_1, pl_14_6, pl_18_6, pl_20_1, pl_29_6, pl_29_11, pl_30_3, pl_30_5, pl_30_9, pl_33_1, pl_33_10, pl_38_17, pl_46_4, pl_46_6, pl_47_10, pl_48_10, pl_50_3, pl_51_5, pl_51_11, pl_51_16, pl_51_17, pl_51_22, pl_51_23, pl_53_1, pl_53_3, pl_53_5, pl_53_8, pl_54_1, pl_54_3, pl_54_5, pl_54_8, pl_54_10, pl_54_13, pl_54_15, pl_54_18, pl_54_21, pl_60_3, pl_60_5, pl_60_6, pl_62_1, pl_62_2, pl_62_3, pl_69_1, pl_72_3, pl_88_9, pl_88_18, pl_89_9, eLty, eLpl, evEq, bytesOf, h1, h2, h3, h4]
          generalize hx : cdL eL 5 43 (.loop b5_0) _ _ = x
          obtain ⟨tm', h', rfl, g0, g3, gz⟩ := loop5 (N := N) (by omega) N 0 hx (by omega) (by omega) (by simp [T.get_set_ite]) (by simp [T.get_set_ite]) (by simp [T.get_set_ite]) (by simp [T.get_set_ite, nm, kd])
          cases h5 : ltI 2000 (↑N : Int) <;> rw [h5] at k9 <;> simp [cdL_seq, cdL_region, cdL_drawn, cdL_cond, cdL_block, cdL_skip, cdL_label, cdL_exit, cdL_ret, endL, evSeq, evOne, evAct, evOp, opKind, evPure, evRead, evNew, evWrite, evSlice, natOf, optVal, readAt, AV.cells, wantedA, putTm, val, allVals, evBin, evInt, evStr, evAppend, evMin, denseFrom, sizesAre, onesIn, evPlan, recheck, AV.beq_refl, H.new, H.put, fillF, fillAt, allOne, AV.one, setArgs, evRes, resOf, ofVal, ofVal0, blt_dec, ble_dec, beq_dec, T.get_set_ite, T.get_e, isShift, ikBeq, ty_0, ty_1, ty_2, ty_3, ty_4, ty_5, ty_6, ty_7, ty_8, ty_9, ty_10, ty_11, ty_12, ty_13, ty_14, ty_15, ty_16, ty_17, ty_18, ty_19, ty_20, ty_21, ty_22, ty_23, ty_24, ty_25, ty_26, ty_27, ty_28, ty_29, ty_30, ty_31, ty_32, ty_33, ty_34, ty_35, ty_36, ty_37, ty_38, ty_39, ty_40, ty_41, ty_42, ty_43, ty_44, ty_45, ty_46, ty_47, ty_48, ty_49, ty_50, ty_51, ty_52, ty_53, ty_54, ty_55, ty_56, ty_57, ty_58, ty_59, ty_60, ty_61, ty_62, ty_63, ty_64, ty_65, ty_66, ty_67, ty_68, ty_69, ty_70, ty_71, ty_72, ty_73, ty_74, ty_75, ty_76, ty_77, ty_78, ty_79, ty_80, ty_81, ty_82, ty_83, ty_84, ty_85, ty_86, ty_87, ty_88, ty_89, ty_90, ty_91, ty_92, ty_93, ty_94, ty_95, ty_96, ty_97, ty_98, ty_99, ty_100, ty_101, ty_102, ty_103, ty_104, ty_105, ty_106, ty_107, ty_108, ty_109, ty_110, ty_111, ty_112, ty_113, ty_114, ty_115, ty_116, ty_117, ty_118, ty_119, ty_120, ty_121, ty_122, ty_123, ty_124, ty_125, ty_126, ty_127, ty_128, ty_129, pl_3_4, pl_4_3, pl_6_5, pl_9_1, pl_14_6, pl_18_6, pl_20_1, pl_29_6, pl_29_11, pl_30_3, pl_30_5, pl_30_9, pl_33_1, pl_33_10, pl_38_17, pl_46_4, pl_46_6, pl_47_10, pl_48_10, pl_50_3, pl_51_5, pl_51_11, pl_51_16, pl_51_17, pl_51_22, pl_51_23, pl_53_1, pl_53_3, pl_53_5, pl_53_8, pl_54_1, pl_54_3, pl_54_5, pl_54_8, pl_54_10, pl_54_13, pl_54_15, pl_54_18, pl_54_21, pl_60_3, pl_60_5, pl_60_6, pl_62_1, pl_62_2, pl_62_3, pl_69_1, pl_72_3, pl_88_9, pl_88_18, pl_89_9, eLty, eLpl, evEq, g0, g3, gz, k9, k12, L13, hii, h5]
      cases h3 : ltI 20 (↑N : Int) with
      | false => exact main (.inl h3)
      | true =>
        cases h4 : ltI (↑N : Int) 1998 with
        | false => exact main (.inr h4)
        | true =>
          simp only [codeAt, sub, Tryd.f5]
          simp [cdL_seq, cdL_region, cdL_drawn, cdL_cond, cdL_block, cdL_skip, cdL_label, cdL_exit, cdL_ret, endL, evSeq, evOne, evAct, evOp, opKind, evPure, evRead, evNew, evWrite, evSlice, natOf, optVal, readAt, AV.cells, wantedA, putTm, val, allVals, evBin, evInt, evStr, evAppend, evMin, denseFrom, sizesAre, onesIn, evPlan, recheck, AV.beq_refl, H.new, H.put, fillF, fillAt, allOne, AV.one, setArgs, evRes, resOf, ofVal, ofVal0, blt_dec, ble_dec, beq_dec, T.get_set_ite, T.get_e, isShift, ikBeq, ty_0, ty_1, ty_2, ty_3, ty_4, ty_5, ty_6, ty_7, ty_8, ty_9, ty_10, ty_11, ty_12, ty_13, ty_14, ty_15, ty_16, ty_17, ty_18, ty_19, ty_20, ty_21, ty_22, ty_23, ty_24, ty_25, ty_26, ty_27, ty_28, ty_29, ty_30, ty_31, ty_32, ty_33, ty_34, ty_35, ty_36, ty_37, ty_38, ty_39, ty_40, ty_41, ty_42, ty_43, ty_44, ty_45, ty_46, ty_47, ty_48, ty_49, ty_50, ty_51, ty_52, ty_53, ty_54, ty_55, ty_56, ty_57, ty_58, ty_59, ty_60, ty_61, ty_62, ty_63, ty_64, ty_65, ty_66, ty_67, ty_68, ty_69, ty_70, ty_71, ty_72, ty_73, ty_74, ty_75, ty_76, ty_77, ty_78, ty_79, ty_80, ty_81, ty_82, ty_83, ty_84, ty_85, ty_86, ty_87, ty_88, ty_89, ty_90, ty_91, ty_92, ty_93, ty_94, ty_95, ty_96, ty_97, ty_98, ty_99, ty_100, ty_101, ty_102, ty_103, ty_104, ty_105, ty_106, ty_107, ty_108, ty_109, ty_110, ty_111, ty_112, ty_113, ty_114, ty_115, ty_116, ty_117, ty_118, ty_119, ty_120, ty_121, ty_122, ty_123, ty_124, ty_125, ty_126, ty_127, ty_128, ty_129, pl_3_4, pl_4_3, pl_6_5, pl_9_1, pl_14_6, pl_18_6, pl_20_1, pl_29_6, pl_29_11, pl_30_3, pl_30_5, pl_30_9, pl_33_1, pl_33_10, pl_38_17, pl_46_4, pl_46_6, pl_47_10, pl_48_10, pl_50_3, pl_51_5, pl_51_11, pl_51_16, pl_51_17, pl_51_22, pl_51_23, pl_53_1, pl_53_3, pl_53_5, pl_53_8, pl_54_1, pl_54_3, pl_54_5, pl_54_8, pl_54_10, pl_54_13, pl_54_15, pl_54_18, pl_54_21, pl_60_3, pl_60_5, pl_60_6, pl_62_1, pl_62_2, pl_62_3, pl_69_1, pl_72_3, pl_88_9, pl_88_18, pl_89_9, eLty, eLpl, evEq, h1, h2, h3, h4]
end Go.Proofs.YtmnhhlkbpjemnaaDoor.Env
