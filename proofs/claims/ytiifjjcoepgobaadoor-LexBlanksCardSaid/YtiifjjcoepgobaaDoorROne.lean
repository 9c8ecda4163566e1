/- The reference's token at the beginning of a text. -/
import Derived.Test.YtiifjjcoepgobaaDoorRNum
set_option autoImplicit false
set_option maxRecDepth 100000
set_option linter.unusedSimpArgs false
set_option linter.unusedVariables false
namespace Go.Proofs.YtiifjjcoepgobaaDoor.Env
open Go.Ev

def isTk (v : AV) : Prop := ∃ (x1 : Int) (x2 : List Nat) (x3 x4 n : Int), v = .tup [.agg [.int .i64 x1, .str x2, .int .i64 x3, .int .i64 x4], .int .i64 n]
theorem rname_tk (s : List Nat) : isTk (rname s) := by
  unfold rname; simp only
  cases isW (s.take (1 + cnt pMore (s.drop 1))) with
  | true => exact ⟨_, _, _, _, _, rfl⟩
  | false => cases ltI 12 ↑(1 + cnt pMore (s.drop 1)) <;> exact ⟨_, _, _, _, _, rfl⟩
theorem rnum_tk (s : List Nat) : isTk (rnum s) := by
  unfold rnum; cases numBad s 0 (cnt pDigit s) <;> exact ⟨_, _, _, _, _, rfl⟩
theorem rquo_tk (s : List Nat) : isTk (rquo s) := by
  unfold rquo; simp only
  cases (intBeq ↑(1 + cnt pNq s.tail) ↑s.length || !okT (s.tail.take (1 + cnt pNq s.tail - 1))) <;> exact ⟨_, _, _, _, _, rfl⟩
theorem isTk_pure {v : AV} (h : isTk v) : v.pure = true ∧ v.forget = v := by
  obtain ⟨x1, x2, x3, x4, n, rfl⟩ := h
  exact ⟨rfl, rfl⟩
def lenPos (s : List Nat) : Bool := lenOk s && Nat.blt 0 s.length
theorem lenPos_iff {s : List Nat} : lenPos s = true ↔ s.length < 140737488355328 ∧ 0 < s.length := by simp [lenPos, lenOk, blt_dec]
noncomputable def env9 : Env := addPrim (addPrim (addPrim env8 24 (primPure (pS lenPos rname))) 26 (primPure (pS lenPos rnum))) 27 (primPure (pS lenPos rquo))
theorem env9_ok : EnvOk Tryd.prog env9 :=
  addPrim_ok (addPrim_ok (addPrim_ok env8_ok
    (pS_ok env8_ok Tryd.func24 (by kernel_rfl) (by kernel_rfl) fun s h => ⟨rname_run s (lenPos_iff.1 h).1 (lenPos_iff.1 h).2, isTk_pure (rname_tk s)⟩))
    (pS_ok env8_ok Tryd.func26 (by kernel_rfl) (by kernel_rfl) fun s h => ⟨rnum_run s (lenPos_iff.1 h).1 (lenPos_iff.1 h).2, isTk_pure (rnum_tk s)⟩))
    (pS_ok env8_ok Tryd.func27 (by kernel_rfl) (by kernel_rfl) fun s h => ⟨rquo_run s (lenPos_iff.1 h).1 (lenPos_iff.1 h).2, isTk_pure (rquo_tk s)⟩)
theorem e9ty : env9.ty = env.ty := rfl
theorem e9pl : env9.plan = env.plan := rfl
theorem e9_24 (h : H) (s : List Nat) (hs : lenPos s = true) : evL env9 24 [.str s] h = some (rname s, h) := pS_call (r := rname) (by kernel_rfl) h s hs
theorem e9_26 (h : H) (s : List Nat) (hs : lenPos s = true) : evL env9 26 [.str s] h = some (rnum s, h) := pS_call (r := rnum) (by kernel_rfl) h s hs
theorem e9_27 (h : H) (s : List Nat) (hs : lenPos s = true) : evL env9 27 [.str s] h = some (rquo s, h) := pS_call (r := rquo) (by kernel_rfl) h s hs
theorem e9_28 (h : H) (s : List Nat) (hs : lenOk s = true) : evL env9 28 [.str s] h = some (.str (sgn s), h) := pS_call (r := fun s => .str (sgn s)) (by kernel_rfl) h s hs
theorem e9_23 (c : Int) (h : H) : evL env9 23 [.int .u8 c] h = some (.bool (pLetter c), h) := by
  rw [evL_prim env9 (f := 23) (p := primPure (pI pLetter)) (by kernel_rfl)]; rfl
theorem e9_25 (c : Int) (h : H) : evL env9 25 [.int .u8 c] h = some (.bool (pDigit c), h) := by
  rw [evL_prim env9 (f := 25) (p := primPure (pI pDigit)) (by kernel_rfl)]; rfl
def rone (s : List Nat) : AV := match s with
  | [] => .tup []
  | c :: _ => bif pLetter ↑c then rname s else bif pDigit ↑c then rnum s else bif intBeq ↑c 34 then rquo s else .tup [tokA 4 (sgn s) 0 0, .int .i64 ↑(sgn s).length]
theorem rone_tk (s : List Nat) (hs : 0 < s.length) : isTk (rone s) := by
  cases s with
  | nil => simp at hs
  | cons c l =>
    unfold rone
    simp only
    cases h1 : pLetter ↑c with
    | true => exact rname_tk _
    | false =>
      cases h2 : pDigit ↑c with
      | true => exact rnum_tk _
      | false =>
        cases h3 : intBeq ↑c 34 with
        | true => exact rquo_tk _
        | false => exact ⟨_, _, _, _, _, rfl⟩
theorem rone_run (s : List Nat) (hp : lenPos s = true) : ∃ h1, evL env9 14 [.str s] ⟨.e, 0⟩ = some (rone s, h1) := by
  have hs := lenPos_iff.1 hp
  obtain ⟨c, l, rfl⟩ : ∃ c l, s = c :: l := by
    cases s with
    | nil => simp at hs
    | cons c l => exact ⟨c, l, rfl⟩
  have w1 := fun h => e9_24 h _ hp
  have w2 := fun h => e9_26 h _ hp
  have w3 := fun h => e9_27 h _ hp
  have w4 := fun h => e9_28 h _ (lenOk_iff.2 hs.1)
  rw [evL_fn env9 (fn := Tryd.f14) (by kernel_rfl) (by kernel_rfl) rfl _ _ rfl]
  simp only [codeAt, sub, Tryd.f14]
  unfold rone
  simp only
  cases h1 : pLetter ↑c with
  | true =>
    obtain ⟨x1, x2, x3, x4, n, e⟩ := rname_tk (c :: l)
    rw [e] at w1 ⊢
    simp [cdL_seq, cdL_region, cdL_drawn, cdL_cond, cdL_block, cdL_skip, cdL_label, cdL_exit, cdL_ret, endL, evSeq, evOne, evAct, evOp, opKind, evPure, evRead, evNew, evWrite, evSlice, natOf, optVal, readAt, AV.cells, wantedA, putTm, val, allVals, evBin, evInt, evStr, evAppend, denseFrom, sizesAre, onesIn, evPlan, recheck, AV.beq_refl, H.new, H.put, fillF, fillAt, allOne, AV.one, setArgs, evRes, resOf, ofVal, ofVal0, blt_dec, ble_dec, beq_dec, T.get_set_ite, T.get_e, isShift, ikBeq, ty_0, ty_1, ty_2, ty_3, ty_4, ty_5, ty_6, ty_7, ty_8, ty_9, ty_10, ty_11, ty_12, ty_13, ty_14, ty_15, ty_16, ty_17, ty_18, ty_19, ty_20, ty_21, ty_22, ty_23, ty_24, ty_25, ty_26, ty_27, ty_28, ty_29, ty_30, ty_31, ty_32, ty_33, ty_34, ty_35, ty_36, ty_37, ty_38, ty_39, ty_40, ty_41, ty_42, ty_43, ty_44, ty_45, ty_46, ty_47, ty_48, ty_49, ty_50, ty_51, ty_52, ty_53, ty_54, ty_55, ty_56, ty_57, ty_58, ty_59, ty_60, ty_61, ty_62, ty_63, ty_64, ty_65, ty_66, ty_67, ty_68, ty_69, ty_70, ty_71, ty_72, ty_73, ty_74, ty_75, ty_76, ty_77, ty_78, ty_79, ty_80, ty_81, ty_82, ty_83, ty_84, ty_85, ty_86, ty_87, ty_88, ty_89, ty_90, pl_4_17, pl_7_6, pl_10_6, pl_15_6, pl_18_3, pl_28_5, pl_43_9, pl_43_18, pl_44_9, e9ty, e9pl, e9_23, e9_25, w1, h1]
  | false =>
    cases h2 : pDigit ↑c with
    | true =>
      obtain ⟨x1, x2, x3, x4, n, e⟩ := rnum_tk (c :: l)
      rw [e] at w2 ⊢
      simp [cdL_seq, cdL_region, cdL_drawn, cdL_cond, cdL_block, cdL_skip, cdL_label, cdL_exit, cdL_ret, endL, evSeq, evOne, evAct, evOp, opKind, evPure, evRead, evNew, evWrite, evSlice, natOf, optVal, readAt, AV.cells, wantedA, putTm, val, allVals, evBin, evInt, evStr, evAppend, denseFrom, sizesAre, onesIn, evPlan, recheck, AV.beq_refl, H.new, H.put, fillF, fillAt, allOne, AV.one, setArgs, evRes, resOf, ofVal, ofVal0, blt_dec, ble_dec, beq_dec, T.get_set_ite, T.get_e, isShift, ikBeq, ty_0, ty_1, ty_2, ty_3, ty_4, ty_5, ty_6, ty_7, ty_8, ty_9, ty_10, ty_11, ty_12, ty_13, ty_14, ty_15, ty_16, ty_17, ty_18, ty_19, ty_20, ty_21, ty_22, ty_23, ty_24, ty_25, ty_26, ty_27, ty_28, ty_29, ty_30, ty_31, ty_32, ty_33, ty_34, ty_35, ty_36, ty_37, ty_38, ty_39, ty_40, ty_41, ty_42, ty_43, ty_44, ty_45, ty_46, ty_47, ty_48, ty_49, ty_50, ty_51, ty_52, ty_53, ty_54, ty_55, ty_56, ty_57, ty_58, ty_59, ty_60, ty_61, ty_62, ty_63, ty_64, ty_65, ty_66, ty_67, ty_68, ty_69, ty_70, ty_71, ty_72, ty_73, ty_74, ty_75, ty_76, ty_77, ty_78, ty_79, ty_80, ty_81, ty_82, ty_83, ty_84, ty_85, ty_86, ty_87, ty_88, ty_89, ty_90, pl_4_17, pl_7_6, pl_10_6, pl_15_6, pl_18_3, pl_28_5, pl_43_9, pl_43_18, pl_44_9, e9ty, e9pl, e9_23, e9_25, w2, h1, h2]
    | false =>
      cases h3 : intBeq ↑c 34 with
      | true =>
        obtain ⟨x1, x2, x3, x4, n, e⟩ := rquo_tk (c :: l)
        rw [e] at w3 ⊢
        simp [cdL_seq, cdL_region, cdL_drawn, cdL_cond, cdL_block, cdL_skip, cdL_label, cdL_exit, cdL_ret, endL, evSeq, evOne, evAct, evOp, opKind, evPure, evRead, evNew, evWrite, evSlice, natOf, optVal, readAt, AV.cells, wantedA, putTm, val, allVals, evBin, evInt, evStr, evAppend, denseFrom, sizesAre, onesIn, evPlan, recheck, AV.beq_refl, H.new, H.put, fillF, fillAt, allOne, AV.one, setArgs, evRes, resOf, ofVal, ofVal0, blt_dec, ble_dec, beq_dec, T.get_set_ite, T.get_e, isShift, ikBeq, ty_0, ty_1, ty_2, ty_3, ty_4, ty_5, ty_6, ty_7, ty_8, ty_9, ty_10, ty_11, ty_12, ty_13, ty_14, ty_15, ty_16, ty_17, ty_18, ty_19, ty_20, ty_21, ty_22, ty_23, ty_24, ty_25, ty_26, ty_27, ty_28, ty_29, ty_30, ty_31, ty_32, ty_33, ty_34, ty_35, ty_36, ty_37, ty_38, ty_39, ty_40, ty_41, ty_42, ty_43, ty_44, ty_45, ty_46, ty_47, ty_48, ty_49, ty_50, ty_51, ty_52, ty_53, ty_54, ty_55, ty_56, ty_57, ty_58, ty_59, ty_60, ty_61, ty_62, ty_63, ty_64, ty_65, ty_66, ty_67, ty_68, ty_69, ty_70, ty_71, ty_72, ty_73, ty_74, ty_75, ty_76, ty_77, ty_78, ty_79, ty_80, ty_81, ty_82, ty_83, ty_84, ty_85, ty_86, ty_87, ty_88, ty_89, ty_90, pl_4_17, pl_7_6, pl_10_6, pl_15_6, pl_18_3, pl_28_5, pl_43_9, pl_43_18, pl_44_9, e9ty, e9pl, e9_23, e9_25, w3, h1, h2, h3]
      | false =>
        simp [cdL_seq, cdL_region, cdL_drawn, cdL_cond, cdL_block, cdL_skip, cdL_label, cdL_exit, cdL_ret, endL, evSeq, evOne, evAct, evOp, opKind, evPure, evRead, evNew, evWrite, evSlice, natOf, optVal, readAt, AV.cells, wantedA, putTm, val, allVals, evBin, evInt, evStr, evAppend, denseFrom, sizesAre, onesIn, evPlan, recheck, AV.beq_refl, H.new, H.put, fillF, fillAt, allOne, AV.one, setArgs, evRes, resOf, ofVal, ofVal0, blt_dec, ble_dec, beq_dec, T.get_set_ite, T.get_e, isShift, ikBeq, ty_0, ty_1, ty_2, ty_3, ty_4, ty_5, ty_6, ty_7, ty_8, ty_9, ty_10, ty_11, ty_12, ty_13, ty_14, ty_15, ty_16, ty_17, ty_18, ty_19, ty_20, ty_21, ty_22, ty_23, ty_24, ty_25, ty_26, ty_27, ty_28, ty_29, ty_30, ty_31, ty_32, ty_33, ty_34, ty_35, ty_36, ty_37, ty_38, ty_39, ty_40, ty_41, ty_42, ty_43, ty_44, ty_45, ty_46, ty_47, ty_48, ty_49, ty_50, ty_51, ty_52, ty_53, ty_54, ty_55, ty_56, ty_57, ty_58, ty_59, ty_60, ty_61, ty_62, ty_63, ty_64, ty_65, ty_66, ty_67, ty_68, ty_69, ty_70, ty_71, ty_72, ty_73, ty_74, ty_75, ty_76, ty_77, ty_78, ty_79, ty_80, ty_81, ty_82, ty_83, ty_84, ty_85, ty_86, ty_87, ty_88, ty_89, ty_90, pl_4_17, pl_7_6, pl_10_6, pl_15_6, pl_18_3, pl_28_5, pl_43_9, pl_43_18, pl_44_9, e9ty, e9pl, e9_23, e9_25, w4, h1, h2, h3, tokA]
noncomputable def env10 : Env := addPrim env9 14 (primPure (pS lenPos rone))
theorem env10_ok : EnvOk Tryd.prog env10 :=
  addPrim_ok env9_ok (pS_ok env9_ok Tryd.func14 (by kernel_rfl) (by kernel_rfl) fun s h => ⟨rone_run s h, isTk_pure (rone_tk s (lenPos_iff.1 h).2)⟩)
theorem e10ty : env10.ty = env.ty := rfl
theorem e10pl : env10.plan = env.plan := rfl
theorem e10_14 (h : H) (s : List Nat) (hs : lenPos s = true) : evL env10 14 [.str s] h = some (rone s, h) := pS_call (r := rone) (by kernel_rfl) h s hs
end Go.Proofs.YtiifjjcoepgobaaDoor.Env
