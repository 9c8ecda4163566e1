/- Types as arguments; what asks of a type. -/
import Derived.Test.YtcmbpfobdgijjaaEwC
import Derived.Test.YtcmbpfobdgijjaaSFacts
set_option autoImplicit false
set_option maxRecDepth 100000
set_option linter.unusedSimpArgs false
set_option linter.unusedVariables false
namespace Go.Proofs.Ytcmbpfobdgijjaa.Env
open Go.Ev

/-! ### Types as arguments -/
mutual
def fit : Ty → Prop
  | .mk o n ks => ks.length ≤ 9223372036854775807 ∧ (-9223372036854775808 ≤ n ∧ n ≤ 9223372036854775807) ∧ fits ks
def fits : List Ty → Prop
  | [] => True
  | t :: l => fit t ∧ fits l
end
theorem fits_mem : ∀ {l : List Ty}, fits l ↔ ∀ t ∈ l, fit t
  | [] => by simp [fits]
  | t :: l => by simp [fits, fits_mem (l := l)]
theorem tyS : closedB Try.prog [25, 23, 9, 3] = true := by kernel_rfl
theorem shp_str {cs : List AV} (h : Shp Try.prog 9 cs) : ∃ s : ByteArray, cs = [.str (bytesOf s)] := by
  cases h with
  | str _ s _ _ => exact ⟨s, rfl⟩
  | int _ _ _ h => rw [Try.underlying9] at h; cases h
  | bool _ _ h => rw [Try.underlying9] at h; cases h
  | sl _ _ _ h => rw [Try.underlying9] at h; cases h
  | st _ _ _ h => rw [Try.underlying9] at h; cases h
theorem shp_int {cs : List AV} (h : Shp Try.prog 3 cs) : ∃ n : Int, cs = [.int .i64 n] ∧ (-9223372036854775808 ≤ n ∧ n ≤ 9223372036854775807) := by
  cases h with
  | str _ _ h => rw [Try.underlying3] at h; cases h
  | int _ _ n h hw =>
    rw [Try.underlying3] at h
    cases h
    refine ⟨n, rfl, ?_⟩
    simp [Lit.wf, IntKind.min, IntKind.max, IntKind.signed, IntKind.bits] at hw
    omega
  | bool _ _ h => rw [Try.underlying3] at h; cases h
  | sl _ _ _ h => rw [Try.underlying3] at h; cases h
  | st _ _ _ h => rw [Try.underlying3] at h; cases h
theorem shp_ty {t : Nat} {cs : List AV} (h : Shp Try.prog t cs) :
    (t = 25 → ∃ T : Ty, cs = [.str T.op, .int .i64 T.n, .sl .no (Ty.avs T.kids)] ∧ fit T) ∧ (t = 23 → ∃ ks : List Ty, cs = [.sl .no (Ty.avs ks)] ∧ ks.length ≤ 9223372036854775807 ∧ fits ks) := by
  induction h with
  | int t k n h _ => exact ⟨(by rintro rfl; rw [Try.underlying25] at h; cases h), (by rintro rfl; rw [Try.underlying23] at h; cases h)⟩
  | bool t b h => exact ⟨(by rintro rfl; rw [Try.underlying25] at h; cases h), (by rintro rfl; rw [Try.underlying23] at h; cases h)⟩
  | str t s h _ => exact ⟨(by rintro rfl; rw [Try.underlying25] at h; cases h), (by rintro rfl; rw [Try.underlying23] at h; cases h)⟩
  | sl t e els h hl hx ha ih =>
    refine ⟨(by rintro rfl; rw [Try.underlying25] at h; cases h), ?_⟩
    rintro rfl
    rw [Try.underlying23] at h
    cases h
    rw [Try.underlying25] at ha
    have : ∀ l : List AV, (∀ x ∈ l, ∃ T : Ty, x = T.av ∧ fit T) → ∃ ks : List Ty, l = Ty.avs ks ∧ fits ks := by
      intro l
      induction l with
      | nil => intro _; exact ⟨[], rfl, trivial⟩
      | cons x l ih =>
        intro h
        obtain ⟨T, rfl, hT⟩ := h x (List.mem_cons_self ..)
        obtain ⟨ks, rfl, hk⟩ := ih fun x hx => h x (List.mem_cons_of_mem _ hx)
        exact ⟨T :: ks, rfl, hT, hk⟩
    obtain ⟨ks, rfl, hk⟩ := this els fun x hx => by
      obtain ⟨cs, rfl⟩ := ha x hx
      obtain ⟨T, hT, hf⟩ := (ih _ hx).1 rfl
      cases T
      exact ⟨_, (by rw [Ty.av]; exact congrArg AV.agg hT), hf⟩
    refine ⟨ks, rfl, ?_, hk⟩
    rw [Ty.avs_map, List.length_map] at hl
    exact hl
  | st t fs ps h hf hp ih =>
    refine ⟨?_, (by rintro rfl; rw [Try.underlying23] at h; cases h)⟩
    rintro rfl
    rw [Try.underlying25] at h
    cases h
    match ps, hf with
    | [(t0, a0), (t1, a1), (t2, a2)], hf =>
      simp at hf
      obtain ⟨rfl, rfl, rfl⟩ := hf
      obtain ⟨s, rfl⟩ := shp_str (hp _ (List.mem_cons_self ..))
      obtain ⟨n, rfl, hn⟩ := shp_int (hp _ (List.mem_cons_of_mem _ (List.mem_cons_self ..)))
      obtain ⟨ks, e, hl, hk⟩ := (ih _ (List.mem_cons_of_mem _ (List.mem_cons_of_mem _ (List.mem_cons_self ..)))).2 rfl
      simp only at e
      subst e
      exact ⟨.mk (bytesOf s) n ks, rfl, hl, hn, hk⟩
    | [], hf => simp at hf
    | [_], hf => simp at hf
    | [_, _], hf => simp at hf
    | _ :: _ :: _ :: _ :: _, hf => simp at hf
end Go.Proofs.Ytcmbpfobdgijjaa.Env
/- The reference's questions of a type: kids of an Op, a var, a row's member, size. -/
set_option autoImplicit false
set_option maxRecDepth 100000
set_option linter.unusedSimpArgs false
set_option linter.unusedVariables false
namespace Go.Proofs.Ytcmbpfobdgijjaa.Env
open Go.Ev

theorem isub (a b : Int) : Int.sub a b = a - b := rfl
def varS : List Nat := [118, 97, 114]
def kidsF (o : List Nat) : Int :=
  bif natsBeq o [105, 110, 116] || (natsBeq o [98, 111, 111, 108] || (natsBeq o [117, 110, 105, 116] || (natsBeq o [115, 116, 114, 105, 110, 103] || (natsBeq o [99, 101, 108, 108] || natsBeq o varS)))) then 0
  else bif natsBeq o [108, 105, 115, 116] || natsBeq o [114, 101, 102] then 1 else bif natsBeq o [112, 97, 105, 114] || natsBeq o [102, 117, 110] then 2 else -1
theorem kids_run (o : List Nat) (h : H) : evL env 28 [.str o] h = some (.int .i64 (kidsF o), h) := by
  rw [evL_fn env (fn := Try.f28) (by kernel_rfl) (by kernel_rfl) rfl _ _ rfl]
  simp only [Try.f28]
  unfold kidsF varS
  cases h1 : natsBeq o [105, 110, 116]
  case true => simp [cdL_seq, cdL_region, cdL_drawn, cdL_cond, cdL_block, cdL_skip, cdL_label, cdL_exit, cdL_ret, endL, evSeq, evOne, evAct, evOp, opKind, evPure, evRead, evNew, evWrite, evSlice, natOf, optVal, readAt, AV.cells, wantedA, putTm, val, allVals, evBin, evInt, evStr, evAppend, denseFrom, sizesAre, onesIn, evPlan, recheck, AV.beq_refl, H.new, H.put, fillF, fillAt, allOne, AV.one, setArgs, evRes, resOf, ofVal, ofVal0, blt_dec, ble_dec, beq_dec, T.get_set_ite, T.get_e, isShift, ikBeq, ty_0, ty_1, ty_2, ty_3, ty_4, ty_5, ty_6, ty_7, ty_8, ty_9, ty_10, ty_11, ty_12, ty_13, ty_14, ty_15, ty_16, ty_17, ty_18, ty_19, ty_20, ty_21, ty_22, ty_23, ty_24, ty_25, ty_26, ty_27, ty_28, ty_29, ty_30, ty_31, ty_32, ty_33, ty_34, ty_35, ty_36, ty_37, ty_38, ty_39, ty_40, ty_41, ty_42, ty_43, ty_44, ty_45, ty_46, ty_47, ty_48, ty_49, ty_50, ty_51, ty_52, ty_53, ty_54, ty_55, ty_56, ty_57, ty_58, ty_59, ty_60, ty_61, ty_62, ty_63, ty_64, ty_65, ty_66, ty_67, ty_68, ty_69, ty_70, ty_71, ty_72, ty_73, ty_74, ty_75, ty_76, ty_77, ty_78, ty_79, ty_80, ty_81, ty_82, ty_83, ty_84, ty_85, ty_86, ty_87, ty_88, ty_89, ty_90, ty_91, ty_92, ty_93, ty_94, ty_95, ty_96, ty_97, ty_98, ty_99, pl_3_10, pl_4_3, pl_5_3, pl_10_9, pl_10_11, pl_10_13, pl_13_1, pl_13_7, pl_16_6, pl_18_6, pl_19_1, pl_27_6, pl_27_11, pl_33_17, pl_35_4, pl_35_6, pl_36_10, pl_37_10, pl_39_3, pl_40_5, pl_40_11, pl_40_16, pl_40_17, pl_40_22, pl_40_23, pl_42_1, pl_42_3, pl_42_5, pl_42_8, pl_43_1, pl_43_3, pl_43_5, pl_43_8, pl_43_10, pl_43_13, pl_43_15, pl_43_18, pl_43_21, pl_46_3, pl_46_5, pl_46_6, pl_48_1, pl_48_2, pl_48_3, pl_52_1, bytesOf, h1]
  cases h2 : natsBeq o [98, 111, 111, 108]
  case true => simp [cdL_seq, cdL_region, cdL_drawn, cdL_cond, cdL_block, cdL_skip, cdL_label, cdL_exit, cdL_ret, endL, evSeq, evOne, evAct, evOp, opKind, evPure, evRead, evNew, evWrite, evSlice, natOf, optVal, readAt, AV.cells, wantedA, putTm, val, allVals, evBin, evInt, evStr, evAppend, denseFrom, sizesAre, onesIn, evPlan, recheck, AV.beq_refl, H.new, H.put, fillF, fillAt, allOne, AV.one, setArgs, evRes, resOf, ofVal, ofVal0, blt_dec, ble_dec, beq_dec, T.get_set_ite, T.get_e, isShift, ikBeq, ty_0, ty_1, ty_2, ty_3, ty_4, ty_5, ty_6, ty_7, ty_8, ty_9, ty_10, ty_11, ty_12, ty_13, ty_14, ty_15, ty_16, ty_17, ty_18, ty_19, ty_20, ty_21, ty_22, ty_23, ty_24, ty_25, ty_26, ty_27, ty_28, ty_29, ty_30, ty_31, ty_32, ty_33, ty_34, ty_35, ty_36, ty_37, ty_38, ty_39, ty_40, ty_41, ty_42, ty_43, ty_44, ty_45, ty_46, ty_47, ty_48, ty_49, ty_50, ty_51, ty_52, ty_53, ty_54, ty_55, ty_56, ty_57, ty_58, ty_59, ty_60, ty_61, ty_62, ty_63, ty_64, ty_65, ty_66, ty_67, ty_68, ty_69, ty_70, ty_71, ty_72, ty_73, ty_74, ty_75, ty_76, ty_77, ty_78, ty_79, ty_80, ty_81, ty_82, ty_83, ty_84, ty_85, ty_86, ty_87, ty_88, ty_89, ty_90, ty_91, ty_92, ty_93, ty_94, ty_95, ty_96, ty_97, ty_98, ty_99, pl_3_10, pl_4_3, pl_5_3, pl_10_9, pl_10_11, pl_10_13, pl_13_1, pl_13_7, pl_16_6, pl_18_6, pl_19_1, pl_27_6, pl_27_11, pl_33_17, pl_35_4, pl_35_6, pl_36_10, pl_37_10, pl_39_3, pl_40_5, pl_40_11, pl_40_16, pl_40_17, pl_40_22, pl_40_23, pl_42_1, pl_42_3, pl_42_5, pl_42_8, pl_43_1, pl_43_3, pl_43_5, pl_43_8, pl_43_10, pl_43_13, pl_43_15, pl_43_18, pl_43_21, pl_46_3, pl_46_5, pl_46_6, pl_48_1, pl_48_2, pl_48_3, pl_52_1, bytesOf, h1, h2]
  cases h3 : natsBeq o [117, 110, 105, 116]
  case true => simp [cdL_seq, cdL_region, cdL_drawn, cdL_cond, cdL_block, cdL_skip, cdL_label, cdL_exit, cdL_ret, endL, evSeq, evOne, evAct, evOp, opKind, evPure, evRead, evNew, evWrite, evSlice, natOf, optVal, readAt, AV.cells, wantedA, putTm, val, allVals, evBin, evInt, evStr, evAppend, denseFrom, sizesAre, onesIn, evPlan, recheck, AV.beq_refl, H.new, H.put, fillF, fillAt, allOne, AV.one, setArgs, evRes, resOf, ofVal, ofVal0, blt_dec, ble_dec, beq_dec, T.get_set_ite, T.get_e, isShift, ikBeq, ty_0, ty_1, ty_2, ty_3, ty_4, ty_5, ty_6, ty_7, ty_8, ty_9, ty_10, ty_11, ty_12, ty_13, ty_14, ty_15, ty_16, ty_17, ty_18, ty_19, ty_20, ty_21, ty_22, ty_23, ty_24, ty_25, ty_26, ty_27, ty_28, ty_29, ty_30, ty_31, ty_32, ty_33, ty_34, ty_35, ty_36, ty_37, ty_38, ty_39, ty_40, ty_41, ty_42, ty_43, ty_44, ty_45, ty_46, ty_47, ty_48, ty_49, ty_50, ty_51, ty_52, ty_53, ty_54, ty_55, ty_56, ty_57, ty_58, ty_59, ty_60, ty_61, ty_62, ty_63, ty_64, ty_65, ty_66, ty_67, ty_68, ty_69, ty_70, ty_71, ty_72, ty_73, ty_74, ty_75, ty_76, ty_77, ty_78, ty_79, ty_80, ty_81, ty_82, ty_83, ty_84, ty_85, ty_86, ty_87, ty_88, ty_89, ty_90, ty_91, ty_92, ty_93, ty_94, ty_95, ty_96, ty_97, ty_98, ty_99, pl_3_10, pl_4_3, pl_5_3, pl_10_9, pl_10_11, pl_10_13, pl_13_1, pl_13_7, pl_16_6, pl_18_6, pl_19_1, pl_27_6, pl_27_11, pl_33_17, pl_35_4, pl_35_6, pl_36_10, pl_37_10, pl_39_3, pl_40_5, pl_40_11, pl_40_16, pl_40_17, pl_40_22, pl_40_23, pl_42_1, pl_42_3, pl_42_5, pl_42_8, pl_43_1, pl_43_3, pl_43_5, pl_43_8, pl_43_10, pl_43_13, pl_43_15, pl_43_18, pl_43_21, pl_46_3, pl_46_5, pl_46_6, pl_48_1, pl_48_2, pl_48_3, pl_52_1, bytesOf, h1, h2, h3]
  cases h4 : natsBeq o [115, 116, 114, 105, 110, 103]
  case true => simp [cdL_seq, cdL_region, cdL_drawn, cdL_cond, cdL_block, cdL_skip, cdL_label, cdL_exit, cdL_ret, endL, evSeq, evOne, evAct, evOp, opKind, evPure, evRead, evNew, evWrite, evSlice, natOf, optVal, readAt, AV.cells, wantedA, putTm, val, allVals, evBin, evInt, evStr, evAppend, denseFrom, sizesAre, onesIn, evPlan, recheck, AV.beq_refl, H.new, H.put, fillF, fillAt, allOne, AV.one, setArgs, evRes, resOf, ofVal, ofVal0, blt_dec, ble_dec, beq_dec, T.get_set_ite, T.get_e, isShift, ikBeq, ty_0, ty_1, ty_2, ty_3, ty_4, ty_5, ty_6, ty_7, ty_8, ty_9, ty_10, ty_11, ty_12, ty_13, ty_14, ty_15, ty_16, ty_17, ty_18, ty_19, ty_20, ty_21, ty_22, ty_23, ty_24, ty_25, ty_26, ty_27, ty_28, ty_29, ty_30, ty_31, ty_32, ty_33, ty_34, ty_35, ty_36, ty_37, ty_38, ty_39, ty_40, ty_41, ty_42, ty_43, ty_44, ty_45, ty_46, ty_47, ty_48, ty_49, ty_50, ty_51, ty_52, ty_53, ty_54, ty_55, ty_56, ty_57, ty_58, ty_59, ty_60, ty_61, ty_62, ty_63, ty_64, ty_65, ty_66, ty_67, ty_68, ty_69, ty_70, ty_71, ty_72, ty_73, ty_74, ty_75, ty_76, ty_77, ty_78, ty_79, ty_80, ty_81, ty_82, ty_83, ty_84, ty_85, ty_86, ty_87, ty_88, ty_89, ty_90, ty_91, ty_92, ty_93, ty_94, ty_95, ty_96, ty_97, ty_98, ty_99, pl_3_10, pl_4_3, pl_5_3, pl_10_9, pl_10_11, pl_10_13, pl_13_1, pl_13_7, pl_16_6, pl_18_6, pl_19_1, pl_27_6, pl_27_11, pl_33_17, pl_35_4, pl_35_6, pl_36_10, pl_37_10, pl_39_3, pl_40_5, pl_40_11, pl_40_16, pl_40_17, pl_40_22, pl_40_23, pl_42_1, pl_42_3, pl_42_5, pl_42_8, pl_43_1, pl_43_3, pl_43_5, pl_43_8, pl_43_10, pl_43_13, pl_43_15, pl_43_18, pl_43_21, pl_46_3, pl_46_5, pl_46_6, pl_48_1, pl_48_2, pl_48_3, pl_52_1, bytesOf, h1, h2, h3, h4]
  cases h5 : natsBeq o [99, 101, 108, 108]
  case true => simp [cdL_seq, cdL_region, cdL_drawn, cdL_cond, cdL_block, cdL_skip, cdL_label, cdL_exit, cdL_ret, endL, evSeq, evOne, evAct, evOp, opKind, evPure, evRead, evNew, evWrite, evSlice, natOf, optVal, readAt, AV.cells, wantedA, putTm, val, allVals, evBin, evInt, evStr, evAppend, denseFrom, sizesAre, onesIn, evPlan, recheck, AV.beq_refl, H.new, H.put, fillF, fillAt, allOne, AV.one, setArgs, evRes, resOf, ofVal, ofVal0, blt_dec, ble_dec, beq_dec, T.get_set_ite, T.get_e, isShift, ikBeq, ty_0, ty_1, ty_2, ty_3, ty_4, ty_5, ty_6, ty_7, ty_8, ty_9, ty_10, ty_11, ty_12, ty_13, ty_14, ty_15, ty_16, ty_17, ty_18, ty_19, ty_20, ty_21, ty_22, ty_23, ty_24, ty_25, ty_26, ty_27, ty_28, ty_29, ty_30, ty_31, ty_32, ty_33, ty_34, ty_35, ty_36, ty_37, ty_38, ty_39, ty_40, ty_41, ty_42, ty_43, ty_44, ty_45, ty_46, ty_47, ty_48, ty_49, ty_50, ty_51, ty_52, ty_53, ty_54, ty_55, ty_56, ty_57, ty_58, ty_59, ty_60, ty_61, ty_62, ty_63, ty_64, ty_65, ty_66, ty_67, ty_68, ty_69, ty_70, ty_71, ty_72, ty_73, ty_74, ty_75, ty_76, ty_77, ty_78, ty_79, ty_80, ty_81, ty_82, ty_83, ty_84, ty_85, ty_86, ty_87, ty_88, ty_89, ty_90, ty_91, ty_92, ty_93, ty_94, ty_95, ty_96, ty_97, ty_98, ty_99, pl_3_10, pl_4_3, pl_5_3, pl_10_9, pl_10_11, pl_10_13, pl_13_1, pl_13_7, pl_16_6, pl_18_6, pl_19_1, pl_27_6, pl_27_11, pl_33_17, pl_35_4, pl_35_6, pl_36_10, pl_37_10, pl_39_3, pl_40_5, pl_40_11, pl_40_16, pl_40_17, pl_40_22, pl_40_23, pl_42_1, pl_42_3, pl_42_5, pl_42_8, pl_43_1, pl_43_3, pl_43_5, pl_43_8, pl_43_10, pl_43_13, pl_43_15, pl_43_18, pl_43_21, pl_46_3, pl_46_5, pl_46_6, pl_48_1, pl_48_2, pl_48_3, pl_52_1, bytesOf, h1, h2, h3, h4, h5]
  cases h6 : natsBeq o [118, 97, 114]
  case true => simp [cdL_seq, cdL_region, cdL_drawn, cdL_cond, cdL_block, cdL_skip, cdL_label, cdL_exit, cdL_ret, endL, evSeq, evOne, evAct, evOp, opKind, evPure, evRead, evNew, evWrite, evSlice, natOf, optVal, readAt, AV.cells, wantedA, putTm, val, allVals, evBin, evInt, evStr, evAppend, denseFrom, sizesAre, onesIn, evPlan, recheck, AV.beq_refl, H.new, H.put, fillF, fillAt, allOne, AV.one, setArgs, evRes, resOf, ofVal, ofVal0, blt_dec, ble_dec, beq_dec, T.get_set_ite, T.get_e, isShift, ikBeq, ty_0, ty_1, ty_2, ty_3, ty_4, ty_5, ty_6, ty_7, ty_8, ty_9, ty_10, ty_11, ty_12, ty_13, ty_14, ty_15, ty_16, ty_17, ty_18, ty_19, ty_20, ty_21, ty_22, ty_23, ty_24, ty_25, ty_26, ty_27, ty_28, ty_29, ty_30, ty_31, ty_32, ty_33, ty_34, ty_35, ty_36, ty_37, ty_38, ty_39, ty_40, ty_41, ty_42, ty_43, ty_44, ty_45, ty_46, ty_47, ty_48, ty_49, ty_50, ty_51, ty_52, ty_53, ty_54, ty_55, ty_56, ty_57, ty_58, ty_59, ty_60, ty_61, ty_62, ty_63, ty_64, ty_65, ty_66, ty_67, ty_68, ty_69, ty_70, ty_71, ty_72, ty_73, ty_74, ty_75, ty_76, ty_77, ty_78, ty_79, ty_80, ty_81, ty_82, ty_83, ty_84, ty_85, ty_86, ty_87, ty_88, ty_89, ty_90, ty_91, ty_92, ty_93, ty_94, ty_95, ty_96, ty_97, ty_98, ty_99, pl_3_10, pl_4_3, pl_5_3, pl_10_9, pl_10_11, pl_10_13, pl_13_1, pl_13_7, pl_16_6, pl_18_6, pl_19_1, pl_27_6, pl_27_11, pl_33_17, pl_35_4, pl_35_6, pl_36_10, pl_37_10, pl_39_3, pl_40_5, pl_40_11, pl_40_16, pl_40_17, pl_40_22, pl_40_23, pl_42_1, pl_42_3, pl_42_5, pl_42_8, pl_43_1, pl_43_3, pl_43_5, pl_43_8, pl_43_10, pl_43_13, pl_43_15, pl_43_18, pl_43_21, pl_46_3, pl_46_5, pl_46_6, pl_48_1, pl_48_2, pl_48_3, pl_52_1, bytesOf, h1, h2, h3, h4, h5, h6]
  cases h7 : natsBeq o [108, 105, 115, 116]
  case true => simp [cdL_seq, cdL_region, cdL_drawn, cdL_cond, cdL_block, cdL_skip, cdL_label, cdL_exit, cdL_ret, endL, evSeq, evOne, evAct, evOp, opKind, evPure, evRead, evNew, evWrite, evSlice, natOf, optVal, readAt, AV.cells, wantedA, putTm, val, allVals, evBin, evInt, evStr, evAppend, denseFrom, sizesAre, onesIn, evPlan, recheck, AV.beq_refl, H.new, H.put, fillF, fillAt, allOne, AV.one, setArgs, evRes, resOf, ofVal, ofVal0, blt_dec, ble_dec, beq_dec, T.get_set_ite, T.get_e, isShift, ikBeq, ty_0, ty_1, ty_2, ty_3, ty_4, ty_5, ty_6, ty_7, ty_8, ty_9, ty_10, ty_11, ty_12, ty_13, ty_14, ty_15, ty_16, ty_17, ty_18, ty_19, ty_20, ty_21, ty_22, ty_23, ty_24, ty_25, ty_26, ty_27, ty_28, ty_29, ty_30, ty_31, ty_32, ty_33, ty_34, ty_35, ty_36, ty_37, ty_38, ty_39, ty_40, ty_41, ty_42, ty_43, ty_44, ty_45, ty_46, ty_47, ty_48, ty_49, ty_50, ty_51, ty_52, ty_53, ty_54, ty_55, ty_56, ty_57, ty_58, ty_59, ty_60, ty_61, ty_62, ty_63, ty_64, ty_65, ty_66, ty_67, ty_68, ty_69, ty_70, ty_71, ty_72, ty_73, ty_74, ty_75, ty_76, ty_77, ty_78, ty_79, ty_80, ty_81, ty_82, ty_83, ty_84, ty_85, ty_86, ty_87, ty_88, ty_89, ty_90, ty_91, ty_92, ty_93, ty_94, ty_95, ty_96, ty_97, ty_98, ty_99, pl_3_10, pl_4_3, pl_5_3, pl_10_9, pl_10_11, pl_10_13, pl_13_1, pl_13_7, pl_16_6, pl_18_6, pl_19_1, pl_27_6, pl_27_11, pl_33_17, pl_35_4, pl_35_6, pl_36_10, pl_37_10, pl_39_3, pl_40_5, pl_40_11, pl_40_16, pl_40_17, pl_40_22, pl_40_23, pl_42_1, pl_42_3, pl_42_5, pl_42_8, pl_43_1, pl_43_3, pl_43_5, pl_43_8, pl_43_10, pl_43_13, pl_43_15, pl_43_18, pl_43_21, pl_46_3, pl_46_5, pl_46_6, pl_48_1, pl_48_2, pl_48_3, pl_52_1, bytesOf, h1, h2, h3, h4, h5, h6, h7]
  cases h8 : natsBeq o [114, 101, 102]
  case true => simp [cdL_seq, cdL_region, cdL_drawn, cdL_cond, cdL_block, cdL_skip, cdL_label, cdL_exit, cdL_ret, endL, evSeq, evOne, evAct, evOp, opKind, evPure, evRead, evNew, evWrite, evSlice, natOf, optVal, readAt, AV.cells, wantedA, putTm, val, allVals, evBin, evInt, evStr, evAppend, denseFrom, sizesAre, onesIn, evPlan, recheck, AV.beq_refl, H.new, H.put, fillF, fillAt, allOne, AV.one, setArgs, evRes, resOf, ofVal, ofVal0, blt_dec, ble_dec, beq_dec, T.get_set_ite, T.get_e, isShift, ikBeq, ty_0, ty_1, ty_2, ty_3, ty_4, ty_5, ty_6, ty_7, ty_8, ty_9, ty_10, ty_11, ty_12, ty_13, ty_14, ty_15, ty_16, ty_17, ty_18, ty_19, ty_20, ty_21, ty_22, ty_23, ty_24, ty_25, ty_26, ty_27, ty_28, ty_29, ty_30, ty_31, ty_32, ty_33, ty_34, ty_35, ty_36, ty_37, ty_38, ty_39, ty_40, ty_41, ty_42, ty_43, ty_44, ty_45, ty_46, ty_47, ty_48, ty_49, ty_50, ty_51, ty_52, ty_53, ty_54, ty_55, ty_56, ty_57, ty_58, ty_59, ty_60, ty_61, ty_62, ty_63, ty_64, ty_65, ty_66, ty_67, ty_68, ty_69, ty_70, ty_71, ty_72, ty_73, ty_74, ty_75, ty_76, ty_77, ty_78, ty_79, ty_80, ty_81, ty_82, ty_83, ty_84, ty_85, ty_86, ty_87, ty_88, ty_89, ty_90, ty_91, ty_92, ty_93, ty_94, ty_95, ty_96, ty_97, ty_98, ty_99, pl_3_10, pl_4_3, pl_5_3, pl_10_9, pl_10_11, pl_10_13, pl_13_1, pl_13_7, pl_16_6, pl_18_6, pl_19_1, pl_27_6, pl_27_11, pl_33_17, pl_35_4, pl_35_6, pl_36_10, pl_37_10, pl_39_3, pl_40_5, pl_40_11, pl_40_16, pl_40_17, pl_40_22, pl_40_23, pl_42_1, pl_42_3, pl_42_5, pl_42_8, pl_43_1, pl_43_3, pl_43_5, pl_43_8, pl_43_10, pl_43_13, pl_43_15, pl_43_18, pl_43_21, pl_46_3, pl_46_5, pl_46_6, pl_48_1, pl_48_2, pl_48_3, pl_52_1, bytesOf, h1, h2, h3, h4, h5, h6, h7, h8]
  cases h9 : natsBeq o [112, 97, 105, 114]
  case true => simp [cdL_seq, cdL_region, cdL_drawn, cdL_cond, cdL_block, cdL_skip, cdL_label, cdL_exit, cdL_ret, endL, evSeq, evOne, evAct, evOp, opKind, evPure, evRead, evNew, evWrite, evSlice, natOf, optVal, readAt, AV.cells, wantedA, putTm, val, allVals, evBin, evInt, evStr, evAppend, denseFrom, sizesAre, onesIn, evPlan, recheck, AV.beq_refl, H.new, H.put, fillF, fillAt, allOne, AV.one, setArgs, evRes, resOf, ofVal, ofVal0, blt_dec, ble_dec, beq_dec, T.get_set_ite, T.get_e, isShift, ikBeq, ty_0, ty_1, ty_2, ty_3, ty_4, ty_5, ty_6, ty_7, ty_8, ty_9, ty_10, ty_11, ty_12, ty_13, ty_14, ty_15, ty_16, ty_17, ty_18, ty_19, ty_20, ty_21, ty_22, ty_23, ty_24, ty_25, ty_26, ty_27, ty_28, ty_29, ty_30, ty_31, ty_32, ty_33, ty_34, ty_35, ty_36, ty_37, ty_38, ty_39, ty_40, ty_41, ty_42, ty_43, ty_44, ty_45, ty_46, ty_47, ty_48, ty_49, ty_50, ty_51, ty_52, ty_53, ty_54, ty_55, ty_56, ty_57, ty_58, ty_59, ty_60, ty_61, ty_62, ty_63, ty_64, ty_65, ty_66, ty_67, ty_68, ty_69, ty_70, ty_71, ty_72, ty_73, ty_74, ty_75, ty_76, ty_77, ty_78, ty_79, ty_80, ty_81, ty_82, ty_83, ty_84, ty_85, ty_86, ty_87, ty_88, ty_89, ty_90, ty_91, ty_92, ty_93, ty_94, ty_95, ty_96, ty_97, ty_98, ty_99, pl_3_10, pl_4_3, pl_5_3, pl_10_9, pl_10_11, pl_10_13, pl_13_1, pl_13_7, pl_16_6, pl_18_6, pl_19_1, pl_27_6, pl_27_11, pl_33_17, pl_35_4, pl_35_6, pl_36_10, pl_37_10, pl_39_3, pl_40_5, pl_40_11, pl_40_16, pl_40_17, pl_40_22, pl_40_23, pl_42_1, pl_42_3, pl_42_5, pl_42_8, pl_43_1, pl_43_3, pl_43_5, pl_43_8, pl_43_10, pl_43_13, pl_43_15, pl_43_18, pl_43_21, pl_46_3, pl_46_5, pl_46_6, pl_48_1, pl_48_2, pl_48_3, pl_52_1, bytesOf, h1, h2, h3, h4, h5, h6, h7, h8, h9]
  cases h10 : natsBeq o [102, 117, 110]
  case true => simp [cdL_seq, cdL_region, cdL_drawn, cdL_cond, cdL_block, cdL_skip, cdL_label, cdL_exit, cdL_ret, endL, evSeq, evOne, evAct, evOp, opKind, evPure, evRead, evNew, evWrite, evSlice, natOf, optVal, readAt, AV.cells, wantedA, putTm, val, allVals, evBin, evInt, evStr, evAppend, denseFrom, sizesAre, onesIn, evPlan, recheck, AV.beq_refl, H.new, H.put, fillF, fillAt, allOne, AV.one, setArgs, evRes, resOf, ofVal, ofVal0, blt_dec, ble_dec, beq_dec, T.get_set_ite, T.get_e, isShift, ikBeq, ty_0, ty_1, ty_2, ty_3, ty_4, ty_5, ty_6, ty_7, ty_8, ty_9, ty_10, ty_11, ty_12, ty_13, ty_14, ty_15, ty_16, ty_17, ty_18, ty_19, ty_20, ty_21, ty_22, ty_23, ty_24, ty_25, ty_26, ty_27, ty_28, ty_29, ty_30, ty_31, ty_32, ty_33, ty_34, ty_35, ty_36, ty_37, ty_38, ty_39, ty_40, ty_41, ty_42, ty_43, ty_44, ty_45, ty_46, ty_47, ty_48, ty_49, ty_50, ty_51, ty_52, ty_53, ty_54, ty_55, ty_56, ty_57, ty_58, ty_59, ty_60, ty_61, ty_62, ty_63, ty_64, ty_65, ty_66, ty_67, ty_68, ty_69, ty_70, ty_71, ty_72, ty_73, ty_74, ty_75, ty_76, ty_77, ty_78, ty_79, ty_80, ty_81, ty_82, ty_83, ty_84, ty_85, ty_86, ty_87, ty_88, ty_89, ty_90, ty_91, ty_92, ty_93, ty_94, ty_95, ty_96, ty_97, ty_98, ty_99, pl_3_10, pl_4_3, pl_5_3, pl_10_9, pl_10_11, pl_10_13, pl_13_1, pl_13_7, pl_16_6, pl_18_6, pl_19_1, pl_27_6, pl_27_11, pl_33_17, pl_35_4, pl_35_6, pl_36_10, pl_37_10, pl_39_3, pl_40_5, pl_40_11, pl_40_16, pl_40_17, pl_40_22, pl_40_23, pl_42_1, pl_42_3, pl_42_5, pl_42_8, pl_43_1, pl_43_3, pl_43_5, pl_43_8, pl_43_10, pl_43_13, pl_43_15, pl_43_18, pl_43_21, pl_46_3, pl_46_5, pl_46_6, pl_48_1, pl_48_2, pl_48_3, pl_52_1, bytesOf, h1, h2, h3, h4, h5, h6, h7, h8, h9, h10]
  simp [cdL_seq, cdL_region, cdL_drawn, cdL_cond, cdL_block, cdL_skip, cdL_label, cdL_exit, cdL_ret, endL, evSeq, evOne, evAct, evOp, opKind, evPure, evRead, evNew, evWrite, evSlice, natOf, optVal, readAt, AV.cells, wantedA, putTm, val, allVals, evBin, evInt, evStr, evAppend, denseFrom, sizesAre, onesIn, evPlan, recheck, AV.beq_refl, H.new, H.put, fillF, fillAt, allOne, AV.one, setArgs, evRes, resOf, ofVal, ofVal0, blt_dec, ble_dec, beq_dec, T.get_set_ite, T.get_e, isShift, ikBeq, ty_0, ty_1, ty_2, ty_3, ty_4, ty_5, ty_6, ty_7, ty_8, ty_9, ty_10, ty_11, ty_12, ty_13, ty_14, ty_15, ty_16, ty_17, ty_18, ty_19, ty_20, ty_21, ty_22, ty_23, ty_24, ty_25, ty_26, ty_27, ty_28, ty_29, ty_30, ty_31, ty_32, ty_33, ty_34, ty_35, ty_36, ty_37, ty_38, ty_39, ty_40, ty_41, ty_42, ty_43, ty_44, ty_45, ty_46, ty_47, ty_48, ty_49, ty_50, ty_51, ty_52, ty_53, ty_54, ty_55, ty_56, ty_57, ty_58, ty_59, ty_60, ty_61, ty_62, ty_63, ty_64, ty_65, ty_66, ty_67, ty_68, ty_69, ty_70, ty_71, ty_72, ty_73, ty_74, ty_75, ty_76, ty_77, ty_78, ty_79, ty_80, ty_81, ty_82, ty_83, ty_84, ty_85, ty_86, ty_87, ty_88, ty_89, ty_90, ty_91, ty_92, ty_93, ty_94, ty_95, ty_96, ty_97, ty_98, ty_99, pl_3_10, pl_4_3, pl_5_3, pl_10_9, pl_10_11, pl_10_13, pl_13_1, pl_13_7, pl_16_6, pl_18_6, pl_19_1, pl_27_6, pl_27_11, pl_33_17, pl_35_4, pl_35_6, pl_36_10, pl_37_10, pl_39_3, pl_40_5, pl_40_11, pl_40_16, pl_40_17, pl_40_22, pl_40_23, pl_42_1, pl_42_3, pl_42_5, pl_42_8, pl_43_1, pl_43_3, pl_43_5, pl_43_8, pl_43_10, pl_43_13, pl_43_15, pl_43_18, pl_43_21, pl_46_3, pl_46_5, pl_46_6, pl_48_1, pl_48_2, pl_48_3, pl_52_1, bytesOf, h1, h2, h3, h4, h5, h6, h7, h8, h9, h10]
theorem var_run (n : Int) (h : H) : ∃ h', evL env 23 [.int .i64 n] h = some (.agg [.str varS, .int .i64 n, .sl .full []], h') := by
  rw [evL_fn env (fn := Try.f23) (by kernel_rfl) (by kernel_rfl) rfl _ _ rfl]
  simp only [Try.f23]
  simp [cdL_seq, cdL_region, cdL_drawn, cdL_cond, cdL_block, cdL_skip, cdL_label, cdL_exit, cdL_ret, endL, evSeq, evOne, evAct, evOp, opKind, evPure, evRead, evNew, evWrite, evSlice, natOf, optVal, readAt, AV.cells, wantedA, putTm, val, allVals, evBin, evInt, evStr, evAppend, denseFrom, sizesAre, onesIn, evPlan, recheck, AV.beq_refl, H.new, H.put, fillF, fillAt, allOne, AV.one, setArgs, evRes, resOf, ofVal, ofVal0, blt_dec, ble_dec, beq_dec, T.get_set_ite, T.get_e, isShift, ikBeq, ty_0, ty_1, ty_2, ty_3, ty_4, ty_5, ty_6, ty_7, ty_8, ty_9, ty_10, ty_11, ty_12, ty_13, ty_14, ty_15, ty_16, ty_17, ty_18, ty_19, ty_20, ty_21, ty_22, ty_23, ty_24, ty_25, ty_26, ty_27, ty_28, ty_29, ty_30, ty_31, ty_32, ty_33, ty_34, ty_35, ty_36, ty_37, ty_38, ty_39, ty_40, ty_41, ty_42, ty_43, ty_44, ty_45, ty_46, ty_47, ty_48, ty_49, ty_50, ty_51, ty_52, ty_53, ty_54, ty_55, ty_56, ty_57, ty_58, ty_59, ty_60, ty_61, ty_62, ty_63, ty_64, ty_65, ty_66, ty_67, ty_68, ty_69, ty_70, ty_71, ty_72, ty_73, ty_74, ty_75, ty_76, ty_77, ty_78, ty_79, ty_80, ty_81, ty_82, ty_83, ty_84, ty_85, ty_86, ty_87, ty_88, ty_89, ty_90, ty_91, ty_92, ty_93, ty_94, ty_95, ty_96, ty_97, ty_98, ty_99, pl_3_10, pl_4_3, pl_5_3, pl_10_9, pl_10_11, pl_10_13, pl_13_1, pl_13_7, pl_16_6, pl_18_6, pl_19_1, pl_27_6, pl_27_11, pl_33_17, pl_35_4, pl_35_6, pl_36_10, pl_37_10, pl_39_3, pl_40_5, pl_40_11, pl_40_16, pl_40_17, pl_40_22, pl_40_23, pl_42_1, pl_42_3, pl_42_5, pl_42_8, pl_43_1, pl_43_3, pl_43_5, pl_43_8, pl_43_10, pl_43_13, pl_43_15, pl_43_18, pl_43_21, pl_46_3, pl_46_5, pl_46_6, pl_48_1, pl_48_2, pl_48_3, pl_52_1, bytesOf, varS]
theorem t_run (o : List Nat) (w : Own) (ks : List AV) (h : H) : ∃ h', evL env 24 [.str o, .sl w ks] h = some (.agg [.str o, .int .i64 0, .sl w ks], h') := by
  rw [evL_fn env (fn := Try.f24) (by kernel_rfl) (by kernel_rfl) rfl _ _ rfl]
  simp only [Try.f24]
  simp [cdL_seq, cdL_region, cdL_drawn, cdL_cond, cdL_block, cdL_skip, cdL_label, cdL_exit, cdL_ret, endL, evSeq, evOne, evAct, evOp, opKind, evPure, evRead, evNew, evWrite, evSlice, natOf, optVal, readAt, AV.cells, wantedA, putTm, val, allVals, evBin, evInt, evStr, evAppend, denseFrom, sizesAre, onesIn, evPlan, recheck, AV.beq_refl, H.new, H.put, fillF, fillAt, allOne, AV.one, setArgs, evRes, resOf, ofVal, ofVal0, blt_dec, ble_dec, beq_dec, T.get_set_ite, T.get_e, isShift, ikBeq, ty_0, ty_1, ty_2, ty_3, ty_4, ty_5, ty_6, ty_7, ty_8, ty_9, ty_10, ty_11, ty_12, ty_13, ty_14, ty_15, ty_16, ty_17, ty_18, ty_19, ty_20, ty_21, ty_22, ty_23, ty_24, ty_25, ty_26, ty_27, ty_28, ty_29, ty_30, ty_31, ty_32, ty_33, ty_34, ty_35, ty_36, ty_37, ty_38, ty_39, ty_40, ty_41, ty_42, ty_43, ty_44, ty_45, ty_46, ty_47, ty_48, ty_49, ty_50, ty_51, ty_52, ty_53, ty_54, ty_55, ty_56, ty_57, ty_58, ty_59, ty_60, ty_61, ty_62, ty_63, ty_64, ty_65, ty_66, ty_67, ty_68, ty_69, ty_70, ty_71, ty_72, ty_73, ty_74, ty_75, ty_76, ty_77, ty_78, ty_79, ty_80, ty_81, ty_82, ty_83, ty_84, ty_85, ty_86, ty_87, ty_88, ty_89, ty_90, ty_91, ty_92, ty_93, ty_94, ty_95, ty_96, ty_97, ty_98, ty_99, pl_3_10, pl_4_3, pl_5_3, pl_10_9, pl_10_11, pl_10_13, pl_13_1, pl_13_7, pl_16_6, pl_18_6, pl_19_1, pl_27_6, pl_27_11, pl_33_17, pl_35_4, pl_35_6, pl_36_10, pl_37_10, pl_39_3, pl_40_5, pl_40_11, pl_40_16, pl_40_17, pl_40_22, pl_40_23, pl_42_1, pl_42_3, pl_42_5, pl_42_8, pl_43_1, pl_43_3, pl_43_5, pl_43_8, pl_43_10, pl_43_13, pl_43_15, pl_43_18, pl_43_21, pl_46_3, pl_46_5, pl_46_6, pl_48_1, pl_48_2, pl_48_3, pl_52_1, bytesOf]
noncomputable def b22_0 : Code := loopOf Try.f11 0
theorem body22 : Try.f11.body = some (.seq (codeAt Try.f11 [0]) (.seq (.seq (codeAt Try.f11 [1, 0, 0]) (.block 0 (.loop b22_0))) (codeAt Try.f11 [1, 1]))) := rfl
def hasI (l : List Int) (n : Int) : Bool := l.any (intBeq · n)
theorem loop22 {o : Own} {L : List Int} {n : Int} (hl : L.length ≤ 9223372036854775807) : ∀ (l : List Int) (i : Nat) {tm : Tm} {h : H} {x : Option (Ex × Tm × H)}, cdL env 11 18 (.loop b22_0) tm h = x → l = L.drop i → i ≤ L.length →
    tm.get 0 = some (.sl o (L.map (.int .i64))) → tm.get 1 = some (.int .i64 n) → tm.get 5 = some (.int .i64 ↑i) → ∃ tm', x = some (bif hasI l n then .ret else .exit 0, tm', h) ∧ (hasI l n = true → tm'.get 4 = some (.bool true))
  | [], i, tm, h, x, hx, hd, hi, h0, h1, h5 => by
    have hlen := dnil hd hi
    obtain ⟨R, hR, hx⟩ := loop_step hx
    simp [b22_0, loopOf, Try.f11, loops, cdL_seq, cdL_region, cdL_drawn, cdL_cond, cdL_block, cdL_skip, cdL_label, cdL_exit, cdL_ret, endL, evSeq, evOne, evAct, evOp, opKind, evPure, evRead, evNew, evWrite, evSlice, natOf, optVal, readAt, AV.cells, wantedA, putTm, val, allVals, evBin, evInt, evStr, evAppend, denseFrom, sizesAre, onesIn, evPlan, recheck, AV.beq_refl, H.new, H.put, fillF, fillAt, allOne, AV.one, setArgs, evRes, resOf, ofVal, ofVal0, blt_dec, ble_dec, beq_dec, T.get_set_ite, T.get_e, isShift, ikBeq, ty_0, ty_1, ty_2, ty_3, ty_4, ty_5, ty_6, ty_7, ty_8, ty_9, ty_10, ty_11, ty_12, ty_13, ty_14, ty_15, ty_16, ty_17, ty_18, ty_19, ty_20, ty_21, ty_22, ty_23, ty_24, ty_25, ty_26, ty_27, ty_28, ty_29, ty_30, ty_31, ty_32, ty_33, ty_34, ty_35, ty_36, ty_37, ty_38, ty_39, ty_40, ty_41, ty_42, ty_43, ty_44, ty_45, ty_46, ty_47, ty_48, ty_49, ty_50, ty_51, ty_52, ty_53, ty_54, ty_55, ty_56, ty_57, ty_58, ty_59, ty_60, ty_61, ty_62, ty_63, ty_64, ty_65, ty_66, ty_67, ty_68, ty_69, ty_70, ty_71, ty_72, ty_73, ty_74, ty_75, ty_76, ty_77, ty_78, ty_79, ty_80, ty_81, ty_82, ty_83, ty_84, ty_85, ty_86, ty_87, ty_88, ty_89, ty_90, ty_91, ty_92, ty_93, ty_94, ty_95, ty_96, ty_97, ty_98, ty_99, pl_3_10, pl_4_3, pl_5_3, pl_10_9, pl_10_11, pl_10_13, pl_13_1, pl_13_7, pl_16_6, pl_18_6, pl_19_1, pl_27_6, pl_27_11, pl_33_17, pl_35_4, pl_35_6, pl_36_10, pl_37_10, pl_39_3, pl_40_5, pl_40_11, pl_40_16, pl_40_17, pl_40_22, pl_40_23, pl_42_1, pl_42_3, pl_42_5, pl_42_8, pl_43_1, pl_43_3, pl_43_5, pl_43_8, pl_43_10, pl_43_13, pl_43_15, pl_43_18, pl_43_21, pl_46_3, pl_46_5, pl_46_6, pl_48_1, pl_48_2, pl_48_3, pl_52_1, lp, h0, h1, h5, hlen, ltI_f] at hx
    exact ⟨_, by rw [← hx]; rfl, by simp [hasI]⟩
  | c :: l, i, tm, h, x, hx, hd, hi, h0, h1, h5 => by
    obtain ⟨hlt, hc, hd'⟩ := dcons hd
    obtain ⟨R, hR, hx⟩ := loop_step hx
    have hlt' := ltI_t hlt
    have hw := wr_succ (i := i) (by omega)
    cases hb : intBeq c n with
    | true =>
      simp [b22_0, loopOf, Try.f11, loops, cdL_seq, cdL_region, cdL_drawn, cdL_cond, cdL_block, cdL_skip, cdL_label, cdL_exit, cdL_ret, endL, evSeq, evOne, evAct, evOp, opKind, evPure, evRead, evNew, evWrite, evSlice, natOf, optVal, readAt, AV.cells, wantedA, putTm, val, allVals, evBin, evInt, evStr, evAppend, denseFrom, sizesAre, onesIn, evPlan, recheck, AV.beq_refl, H.new, H.put, fillF, fillAt, allOne, AV.one, setArgs, evRes, resOf, ofVal, ofVal0, blt_dec, ble_dec, beq_dec, T.get_set_ite, T.get_e, isShift, ikBeq, ty_0, ty_1, ty_2, ty_3, ty_4, ty_5, ty_6, ty_7, ty_8, ty_9, ty_10, ty_11, ty_12, ty_13, ty_14, ty_15, ty_16, ty_17, ty_18, ty_19, ty_20, ty_21, ty_22, ty_23, ty_24, ty_25, ty_26, ty_27, ty_28, ty_29, ty_30, ty_31, ty_32, ty_33, ty_34, ty_35, ty_36, ty_37, ty_38, ty_39, ty_40, ty_41, ty_42, ty_43, ty_44, ty_45, ty_46, ty_47, ty_48, ty_49, ty_50, ty_51, ty_52, ty_53, ty_54, ty_55, ty_56, ty_57, ty_58, ty_59, ty_60, ty_61, ty_62, ty_63, ty_64, ty_65, ty_66, ty_67, ty_68, ty_69, ty_70, ty_71, ty_72, ty_73, ty_74, ty_75, ty_76, ty_77, ty_78, ty_79, ty_80, ty_81, ty_82, ty_83, ty_84, ty_85, ty_86, ty_87, ty_88, ty_89, ty_90, ty_91, ty_92, ty_93, ty_94, ty_95, ty_96, ty_97, ty_98, ty_99, pl_3_10, pl_4_3, pl_5_3, pl_10_9, pl_10_11, pl_10_13, pl_13_1, pl_13_7, pl_16_6, pl_18_6, pl_19_1, pl_27_6, pl_27_11, pl_33_17, pl_35_4, pl_35_6, pl_36_10, pl_37_10, pl_39_3, pl_40_5, pl_40_11, pl_40_16, pl_40_17, pl_40_22, pl_40_23, pl_42_1, pl_42_3, pl_42_5, pl_42_8, pl_43_1, pl_43_3, pl_43_5, pl_43_8, pl_43_10, pl_43_13, pl_43_15, pl_43_18, pl_43_21, pl_46_3, pl_46_5, pl_46_6, pl_48_1, pl_48_2, pl_48_3, pl_52_1, lp, h0, h1, h5, hlt', hc, hb, hw] at hx
      exact ⟨_, by rw [← hx]; simp [hasI, hb]; rfl, by simp [T.get_set_ite]⟩
    | false =>
      simp [b22_0, loopOf, Try.f11, loops, cdL_seq, cdL_region, cdL_drawn, cdL_cond, cdL_block, cdL_skip, cdL_label, cdL_exit, cdL_ret, endL, evSeq, evOne, evAct, evOp, opKind, evPure, evRead, evNew, evWrite, evSlice, natOf, optVal, readAt, AV.cells, wantedA, putTm, val, allVals, evBin, evInt, evStr, evAppend, denseFrom, sizesAre, onesIn, evPlan, recheck, AV.beq_refl, H.new, H.put, fillF, fillAt, allOne, AV.one, setArgs, evRes, resOf, ofVal, ofVal0, blt_dec, ble_dec, beq_dec, T.get_set_ite, T.get_e, isShift, ikBeq, ty_0, ty_1, ty_2, ty_3, ty_4, ty_5, ty_6, ty_7, ty_8, ty_9, ty_10, ty_11, ty_12, ty_13, ty_14, ty_15, ty_16, ty_17, ty_18, ty_19, ty_20, ty_21, ty_22, ty_23, ty_24, ty_25, ty_26, ty_27, ty_28, ty_29, ty_30, ty_31, ty_32, ty_33, ty_34, ty_35, ty_36, ty_37, ty_38, ty_39, ty_40, ty_41, ty_42, ty_43, ty_44, ty_45, ty_46, ty_47, ty_48, ty_49, ty_50, ty_51, ty_52, ty_53, ty_54, ty_55, ty_56, ty_57, ty_58, ty_59, ty_60, ty_61, ty_62, ty_63, ty_64, ty_65, ty_66, ty_67, ty_68, ty_69, ty_70, ty_71, ty_72, ty_73, ty_74, ty_75, ty_76, ty_77, ty_78, ty_79, ty_80, ty_81, ty_82, ty_83, ty_84, ty_85, ty_86, ty_87, ty_88, ty_89, ty_90, ty_91, ty_92, ty_93, ty_94, ty_95, ty_96, ty_97, ty_98, ty_99, pl_3_10, pl_4_3, pl_5_3, pl_10_9, pl_10_11, pl_10_13, pl_13_1, pl_13_7, pl_16_6, pl_18_6, pl_19_1, pl_27_6, pl_27_11, pl_33_17, pl_35_4, pl_35_6, pl_36_10, pl_37_10, pl_39_3, pl_40_5, pl_40_11, pl_40_16, pl_40_17, pl_40_22, pl_40_23, pl_42_1, pl_42_3, pl_42_5, pl_42_8, pl_43_1, pl_43_3, pl_43_5, pl_43_8, pl_43_10, pl_43_13, pl_43_15, pl_43_18, pl_43_21, pl_46_3, pl_46_5, pl_46_6, pl_48_1, pl_48_2, pl_48_3, pl_52_1, lp, h0, h1, h5, hlt', hc, hb, hw] at hx
      rw [hR] at hx
      have e : hasI (c :: l) n = hasI l n := by simp [hasI, hb]
      rw [e]
      exact loop22 (o := o) (n := n) hl l (i + 1) hx hd' hlt (by simp [T.get_set_ite, h0]) (by simp [T.get_set_ite, h1]) (by simp [T.get_set_ite])
theorem has_run (o : Own) (L : List Int) (n : Int) (hl : L.length ≤ 9223372036854775807) (h : H) : evL env 11 [.sl o (L.map (.int .i64)), .int .i64 n] h = some (.bool (hasI L n), h) := by
  rw [evL_fn env (by kernel_rfl) (by kernel_rfl) body22 _ _ rfl]
  simp only [codeAt, sub, Try.f11]
  simp [cdL_seq, cdL_region, cdL_drawn, cdL_cond, cdL_block, cdL_skip, cdL_label, cdL_exit, cdL_ret, endL, evSeq, evOne, evAct, evOp, opKind, evPure, evRead, evNew, evWrite, evSlice, natOf, optVal, readAt, AV.cells, wantedA, putTm, val, allVals, evBin, evInt, evStr, evAppend, denseFrom, sizesAre, onesIn, evPlan, recheck, AV.beq_refl, H.new, H.put, fillF, fillAt, allOne, AV.one, setArgs, evRes, resOf, ofVal, ofVal0, blt_dec, ble_dec, beq_dec, T.get_set_ite, T.get_e, isShift, ikBeq, ty_0, ty_1, ty_2, ty_3, ty_4, ty_5, ty_6, ty_7, ty_8, ty_9, ty_10, ty_11, ty_12, ty_13, ty_14, ty_15, ty_16, ty_17, ty_18, ty_19, ty_20, ty_21, ty_22, ty_23, ty_24, ty_25, ty_26, ty_27, ty_28, ty_29, ty_30, ty_31, ty_32, ty_33, ty_34, ty_35, ty_36, ty_37, ty_38, ty_39, ty_40, ty_41, ty_42, ty_43, ty_44, ty_45, ty_46, ty_47, ty_48, ty_49, ty_50, ty_51, ty_52, ty_53, ty_54, ty_55, ty_56, ty_57, ty_58, ty_59, ty_60, ty_61, ty_62, ty_63, ty_64, ty_65, ty_66, ty_67, ty_68, ty_69, ty_70, ty_71, ty_72, ty_73, ty_74, ty_75, ty_76, ty_77, ty_78, ty_79, ty_80, ty_81, ty_82, ty_83, ty_84, ty_85, ty_86, ty_87, ty_88, ty_89, ty_90, ty_91, ty_92, ty_93, ty_94, ty_95, ty_96, ty_97, ty_98, ty_99, pl_3_10, pl_4_3, pl_5_3, pl_10_9, pl_10_11, pl_10_13, pl_13_1, pl_13_7, pl_16_6, pl_18_6, pl_19_1, pl_27_6, pl_27_11, pl_33_17, pl_35_4, pl_35_6, pl_36_10, pl_37_10, pl_39_3, pl_40_5, pl_40_11, pl_40_16, pl_40_17, pl_40_22, pl_40_23, pl_42_1, pl_42_3, pl_42_5, pl_42_8, pl_43_1, pl_43_3, pl_43_5, pl_43_8, pl_43_10, pl_43_13, pl_43_15, pl_43_18, pl_43_21, pl_46_3, pl_46_5, pl_46_6, pl_48_1, pl_48_2, pl_48_3, pl_52_1]
  generalize hx : cdL env 11 18 (.loop b22_0) _ _ = x
  obtain ⟨tm', rfl, g⟩ := loop22 (o := o) (n := n) hl L 0 hx rfl (Nat.zero_le _) (by simp [T.get_set_ite]) (by simp [T.get_set_ite]) (by simp [T.get_set_ite])
  cases hb : hasI L n with
  | true => simp [cdL_seq, cdL_region, cdL_drawn, cdL_cond, cdL_block, cdL_skip, cdL_label, cdL_exit, cdL_ret, endL, evSeq, evOne, evAct, evOp, opKind, evPure, evRead, evNew, evWrite, evSlice, natOf, optVal, readAt, AV.cells, wantedA, putTm, val, allVals, evBin, evInt, evStr, evAppend, denseFrom, sizesAre, onesIn, evPlan, recheck, AV.beq_refl, H.new, H.put, fillF, fillAt, allOne, AV.one, setArgs, evRes, resOf, ofVal, ofVal0, blt_dec, ble_dec, beq_dec, T.get_set_ite, T.get_e, isShift, ikBeq, ty_0, ty_1, ty_2, ty_3, ty_4, ty_5, ty_6, ty_7, ty_8, ty_9, ty_10, ty_11, ty_12, ty_13, ty_14, ty_15, ty_16, ty_17, ty_18, ty_19, ty_20, ty_21, ty_22, ty_23, ty_24, ty_25, ty_26, ty_27, ty_28, ty_29, ty_30, ty_31, ty_32, ty_33, ty_34, ty_35, ty_36, ty_37, ty_38, ty_39, ty_40, ty_41, ty_42, ty_43, ty_44, ty_45, ty_46, ty_47, ty_48, ty_49, ty_50, ty_51, ty_52, ty_53, ty_54, ty_55, ty_56, ty_57, ty_58, ty_59, ty_60, ty_61, ty_62, ty_63, ty_64, ty_65, ty_66, ty_67, ty_68, ty_69, ty_70, ty_71, ty_72, ty_73, ty_74, ty_75, ty_76, ty_77, ty_78, ty_79, ty_80, ty_81, ty_82, ty_83, ty_84, ty_85, ty_86, ty_87, ty_88, ty_89, ty_90, ty_91, ty_92, ty_93, ty_94, ty_95, ty_96, ty_97, ty_98, ty_99, pl_3_10, pl_4_3, pl_5_3, pl_10_9, pl_10_11, pl_10_13, pl_13_1, pl_13_7, pl_16_6, pl_18_6, pl_19_1, pl_27_6, pl_27_11, pl_33_17, pl_35_4, pl_35_6, pl_36_10, pl_37_10, pl_39_3, pl_40_5, pl_40_11, pl_40_16, pl_40_17, pl_40_22, pl_40_23, pl_42_1, pl_42_3, pl_42_5, pl_42_8, pl_43_1, pl_43_3, pl_43_5, pl_43_8, pl_43_10, pl_43_13, pl_43_15, pl_43_18, pl_43_21, pl_46_3, pl_46_5, pl_46_6, pl_48_1, pl_48_2, pl_48_3, pl_52_1, g hb]
  | false => simp [cdL_seq, cdL_region, cdL_drawn, cdL_cond, cdL_block, cdL_skip, cdL_label, cdL_exit, cdL_ret, endL, evSeq, evOne, evAct, evOp, opKind, evPure, evRead, evNew, evWrite, evSlice, natOf, optVal, readAt, AV.cells, wantedA, putTm, val, allVals, evBin, evInt, evStr, evAppend, denseFrom, sizesAre, onesIn, evPlan, recheck, AV.beq_refl, H.new, H.put, fillF, fillAt, allOne, AV.one, setArgs, evRes, resOf, ofVal, ofVal0, blt_dec, ble_dec, beq_dec, T.get_set_ite, T.get_e, isShift, ikBeq, ty_0, ty_1, ty_2, ty_3, ty_4, ty_5, ty_6, ty_7, ty_8, ty_9, ty_10, ty_11, ty_12, ty_13, ty_14, ty_15, ty_16, ty_17, ty_18, ty_19, ty_20, ty_21, ty_22, ty_23, ty_24, ty_25, ty_26, ty_27, ty_28, ty_29, ty_30, ty_31, ty_32, ty_33, ty_34, ty_35, ty_36, ty_37, ty_38, ty_39, ty_40, ty_41, ty_42, ty_43, ty_44, ty_45, ty_46, ty_47, ty_48, ty_49, ty_50, ty_51, ty_52, ty_53, ty_54, ty_55, ty_56, ty_57, ty_58, ty_59, ty_60, ty_61, ty_62, ty_63, ty_64, ty_65, ty_66, ty_67, ty_68, ty_69, ty_70, ty_71, ty_72, ty_73, ty_74, ty_75, ty_76, ty_77, ty_78, ty_79, ty_80, ty_81, ty_82, ty_83, ty_84, ty_85, ty_86, ty_87, ty_88, ty_89, ty_90, ty_91, ty_92, ty_93, ty_94, ty_95, ty_96, ty_97, ty_98, ty_99, pl_3_10, pl_4_3, pl_5_3, pl_10_9, pl_10_11, pl_10_13, pl_13_1, pl_13_7, pl_16_6, pl_18_6, pl_19_1, pl_27_6, pl_27_11, pl_33_17, pl_35_4, pl_35_6, pl_36_10, pl_37_10, pl_39_3, pl_40_5, pl_40_11, pl_40_16, pl_40_17, pl_40_22, pl_40_23, pl_42_1, pl_42_3, pl_42_5, pl_42_8, pl_43_1, pl_43_3, pl_43_5, pl_43_8, pl_43_10, pl_43_13, pl_43_15, pl_43_18, pl_43_21, pl_46_3, pl_46_5, pl_46_6, pl_48_1, pl_48_2, pl_48_3, pl_52_1]

/-! ### These as primitives -/
noncomputable abbrev p32 := primVal (ofRel (Rel1 (fun _ : Str => True) (fun s => kidsF s.s)))
noncomputable abbrev p22 := primVal (ofRel (Rel2 (fun (l : List Int) (_ : Int) => l.length ≤ 9223372036854775807) hasI))
noncomputable abbrev p21 := primVal (ofRel (Rel1 (fun _ : Int => True) (fun n => Ty.mk varS n [])))
noncomputable abbrev p25 := primVal (ofRel (Rel2 (fun (_ : Str) (_ : List Ty) => True) (fun o ks => Ty.mk o.s 0 ks)))
theorem bodyL_of {E : Env} {f : Nat} {fn : Func} {c : Code} {args : List AV} {h : H} {r : Option (AV × H)} (hp : E.prim f = none) (hf : E.fns f = some fn) (hb : fn.body = some c) (hl : Nat.ble args.length fn.ntmps = true) (he : evL E f args h = r) : bodyL E f fn c args h = r := by
  rw [← he, evL_fn E hp hf hb _ _ hl]; rfl
theorem p32_ok : PrimOk Try.prog 28 p32 := prim1_ok env_ok (fn := Try.f28) (by kernel_rfl) rfl (by kernel_rfl) fun s _ => ⟨_, _, bodyL_of (by kernel_rfl) (by kernel_rfl) rfl rfl (kids_run s.s _), by simp [AV.wk, Enc.enc]⟩
theorem p22_ok : PrimOk Try.prog 11 p22 := prim2_ok env_ok (fn := Try.f11) (by kernel_rfl) body22 (by kernel_rfl) fun l n h => ⟨_, _, bodyL_of (by kernel_rfl) (by kernel_rfl) body22 rfl (has_run .no l n h _), by simp [AV.wk, Enc.enc]⟩
theorem p21_ok : PrimOk Try.prog 23 p21 := prim1_ok env_ok (fn := Try.f23) (by kernel_rfl) rfl (by kernel_rfl) fun n _ => by
  obtain ⟨h', e⟩ := var_run n ⟨.e, 0⟩
  exact ⟨_, h', bodyL_of (by kernel_rfl) (by kernel_rfl) rfl rfl e, by simp [wk_agg, wk_tup, wk_sl, wks_cons, wks_nil, wk_int, wk_str, wk_bool, own_no, Enc.enc, Ty.av, Ty.avs]⟩
theorem p25_ok : PrimOk Try.prog 24 p25 := prim2_ok env_ok (fn := Try.f24) (by kernel_rfl) rfl (by kernel_rfl) fun o ks _ => by
  obtain ⟨h', e⟩ := t_run o.s .no (ks.map Ty.av) ⟨.e, 0⟩
  exact ⟨_, h', bodyL_of (by kernel_rfl) (by kernel_rfl) rfl rfl e, by
    have := Ty.av_bare 0 (.mk o.s 0 ks)
    simpa [Enc.enc, Ty.av, Ty.avs_map] using this⟩
noncomputable def envA : Env := addPrim (addPrim (addPrim (addPrim env 28 p32) 11 p22) 23 p21) 24 p25
theorem envA_ok : EnvOk Try.prog envA := addPrim_ok (addPrim_ok (addPrim_ok (addPrim_ok env_ok p32_ok) p22_ok) p21_ok) p25_ok
theorem c32 {E : Env} (hp : E.prim 28 = some p32) (o : List Nat) (h : H) : evL E 28 [.str o] h = some (.int .i64 (kidsF o), h) :=
  prim1_call (α := Str) (a := ⟨o⟩) hp (by simp [AV.wk, Enc.enc]) trivial h
theorem c22 {E : Env} (hp : E.prim 11 = some p22) (o : Own) (L : List Int) (n : Int) (hl : L.length ≤ 9223372036854775807) (h : H) : evL E 11 [.sl o (L.map (.int .i64)), .int .i64 n] h = some (.bool (hasI L n), h) :=
  prim2_call (α := List Int) (β := Int) (a := L) (b := n) hp (by simp only [AV.wk]; exact ⟨.no, _, rfl, .inl rfl, wks_map_refl 0 L⟩) (by simp [AV.wk, Enc.enc]) hl h
theorem c21 {E : Env} (hp : E.prim 23 = some p21) (n : Int) (h : H) : evL E 23 [.int .i64 n] h = some ((Ty.mk varS n []).av, h) :=
  prim1_call (α := Int) (a := n) hp (by simp [AV.wk, Enc.enc]) trivial h

/-! ### Size -/
mutual
def szF : Ty → Int → Int
  | .mk _ _ ks, m => szL ks m 1
def szL : List Ty → Int → Int → Int
  | [], _, k => k
  | t :: l, m, k => bif ltI k m then szL l m (k + szF t (m - k)) else k
end
mutual
theorem szF_le : ∀ (t : Ty) (m : Int), 1 ≤ szF t m ∧ (szF t m ≤ m ∨ szF t m = 1)
  | .mk _ _ ks, m => by
    have := szL_le ks m 1 (Int.le_refl _)
    simp only [szF]
    omega
theorem szL_le : ∀ (l : List Ty) (m k : Int), 1 ≤ k → k ≤ szL l m k ∧ (szL l m k ≤ m ∨ szL l m k = k)
  | [], m, k, _ => by simp [szL]
  | t :: l, m, k, hk => by
    simp only [szL]
    cases hb : ltI k m with
    | false => simp
    | true =>
      have hlt : k < m := by rw [ltI_eq] at hb; simpa using hb
      have h1 := szF_le t (m - k)
      have h2 := szL_le l m (k + szF t (m - k)) (by omega)
      simp only [cond_true]
      omega
end
mutual
def dep : Ty → Nat
  | .mk _ _ ks => deps ks + 1
def deps : List Ty → Nat
  | [] => 0
  | t :: l => max (dep t) (deps l)
end
theorem dep_mem : ∀ {l : List Ty} {t : Ty}, t ∈ l → dep t ≤ deps l
  | a :: l, t, h => by
    rcases List.mem_cons.1 h with rfl | h
    · exact Nat.le_max_left ..
    · exact Nat.le_trans (dep_mem h) (Nat.le_max_right ..)

noncomputable def b9_0 : Code := loopOf Try.f7 0
theorem body9 : Try.f7.body = some (.seq (codeAt Try.f7 [0]) (.seq (codeAt Try.f7 [1, 0]) (.seq (.seq (codeAt Try.f7 [1, 1, 0, 0]) (.block 0 (.loop b9_0))) (codeAt Try.f7 [1, 1, 1])))) := rfl
section
variable {E : Env} (hty : E.ty = env.ty)
include hty
theorem loop9 {o : List Nat} {n : Int} {ks : List Ty} {m : Int} {d : Nat} (hm : 0 ≤ m ∧ m ≤ 4000) (hl : ks.length ≤ 9223372036854775807) (hf : fits ks) (hd : deps ks ≤ d)
    (hc : ∀ t m h, dep t ≤ d → fit t → 0 ≤ m ∧ m ≤ 4000 → evL E 7 [t.av, .int .i64 m] h = some (.int .i64 (szF t m), h)) :
    ∀ (l : List Ty) (i : Nat) (k : Int) {tm : Tm} {h : H} {x : Option (Ex × Tm × H)}, cdL E 7 31 (.loop b9_0) tm h = x → l = ks.drop i → i ≤ ks.length → 1 ≤ k → (k ≤ m ∨ k = 1) →
    tm.get 1 = some (.int .i64 m) → tm.get 2 = some (.ptr (some (0, 0))) → tm.get 5 = some (.int .i64 k) → tm.get 6 = some (.int .i64 ↑i) → h.t.get 0 = some (.cells [.str o, .int .i64 n, .sl .no (Ty.avs ks)]) →
    ∃ tm', x = some (.exit 0, tm', h) ∧ tm'.get 5 = some (.int .i64 (szL l m k))
  | [], i, k, tm, h, x, hx, hd, hi, hk, hk2, h1, h2, h5, h6, hz => by
    have hlen := dnil hd hi
    have hl2 : (Ty.avs ks).length = i := by rw [Ty.avs_map, List.length_map]; exact hlen
    obtain ⟨R, hR, hx⟩ := loop_step hx
    simp [b9_0, loopOf, Try.f7, loops, cdL_seq, cdL_region, cdL_drawn, cdL_cond, cdL_block, cdL_skip, cdL_label, cdL_exit, cdL_ret, endL, evSeq, evOne, evAct, evOp, opKind, evPure, evRead, evNew, evWrite, evSlice, natOf, optVal, readAt, AV.cells, wantedA, putTm, val, allVals, evBin, evInt, evStr, evAppend, denseFrom, sizesAre, onesIn, evPlan, recheck, AV.beq_refl, H.new, H.put, fillF, fillAt, allOne, AV.one, setArgs, evRes, resOf, ofVal, ofVal0, blt_dec, ble_dec, beq_dec, T.get_set_ite, T.get_e, isShift, ikBeq, ty_0, ty_1, ty_2, ty_3, ty_4, ty_5, ty_6, ty_7, ty_8, ty_9, ty_10, ty_11, ty_12, ty_13, ty_14, ty_15, ty_16, ty_17, ty_18, ty_19, ty_20, ty_21, ty_22, ty_23, ty_24, ty_25, ty_26, ty_27, ty_28, ty_29, ty_30, ty_31, ty_32, ty_33, ty_34, ty_35, ty_36, ty_37, ty_38, ty_39, ty_40, ty_41, ty_42, ty_43, ty_44, ty_45, ty_46, ty_47, ty_48, ty_49, ty_50, ty_51, ty_52, ty_53, ty_54, ty_55, ty_56, ty_57, ty_58, ty_59, ty_60, ty_61, ty_62, ty_63, ty_64, ty_65, ty_66, ty_67, ty_68, ty_69, ty_70, ty_71, ty_72, ty_73, ty_74, ty_75, ty_76, ty_77, ty_78, ty_79, ty_80, ty_81, ty_82, ty_83, ty_84, ty_85, ty_86, ty_87, ty_88, ty_89, ty_90, ty_91, ty_92, ty_93, ty_94, ty_95, ty_96, ty_97, ty_98, ty_99, pl_3_10, pl_4_3, pl_5_3, pl_10_9, pl_10_11, pl_10_13, pl_13_1, pl_13_7, pl_16_6, pl_18_6, pl_19_1, pl_27_6, pl_27_11, pl_33_17, pl_35_4, pl_35_6, pl_36_10, pl_37_10, pl_39_3, pl_40_5, pl_40_11, pl_40_16, pl_40_17, pl_40_22, pl_40_23, pl_42_1, pl_42_3, pl_42_5, pl_42_8, pl_43_1, pl_43_3, pl_43_5, pl_43_8, pl_43_10, pl_43_13, pl_43_15, pl_43_18, pl_43_21, pl_46_3, pl_46_5, pl_46_6, pl_48_1, pl_48_2, pl_48_3, pl_52_1, lp, hty, h1, h2, h5, h6, hz, hl2, ltI_f] at hx
    exact ⟨_, by rw [← hx], by simp [T.get_set_ite, h5, szL]⟩
  | t :: l, i, k, tm, h, x, hx, hdr, hi, hk, hk2, h1, h2, h5, h6, hz => by
    obtain ⟨hlt, hct, hd'⟩ := dcons hdr
    have hl2 : (Ty.avs ks).length = ks.length := by rw [Ty.avs_map, List.length_map]
    have hat : (Ty.avs ks)[i]? = some t.av := by rw [Ty.avs_map, List.getElem?_map, hct]; rfl
    have htm := List.mem_of_getElem? hct
    obtain ⟨R, hR, hx⟩ := loop_step hx
    have hlt' := ltI_t hlt
    have hw := wr_succ (i := i) (by omega)
    cases hb : ltI k m with
    | false =>
      simp [b9_0, loopOf, Try.f7, loops, cdL_seq, cdL_region, cdL_drawn, cdL_cond, cdL_block, cdL_skip, cdL_label, cdL_exit, cdL_ret, endL, evSeq, evOne, evAct, evOp, opKind, evPure, evRead, evNew, evWrite, evSlice, natOf, optVal, readAt, AV.cells, wantedA, putTm, val, allVals, evBin, evInt, evStr, evAppend, denseFrom, sizesAre, onesIn, evPlan, recheck, AV.beq_refl, H.new, H.put, fillF, fillAt, allOne, AV.one, setArgs, evRes, resOf, ofVal, ofVal0, blt_dec, ble_dec, beq_dec, T.get_set_ite, T.get_e, isShift, ikBeq, ty_0, ty_1, ty_2, ty_3, ty_4, ty_5, ty_6, ty_7, ty_8, ty_9, ty_10, ty_11, ty_12, ty_13, ty_14, ty_15, ty_16, ty_17, ty_18, ty_19, ty_20, ty_21, ty_22, ty_23, ty_24, ty_25, ty_26, ty_27, ty_28, ty_29, ty_30, ty_31, ty_32, ty_33, ty_34, ty_35, ty_36, ty_37, ty_38, ty_39, ty_40, ty_41, ty_42, ty_43, ty_44, ty_45, ty_46, ty_47, ty_48, ty_49, ty_50, ty_51, ty_52, ty_53, ty_54, ty_55, ty_56, ty_57, ty_58, ty_59, ty_60, ty_61, ty_62, ty_63, ty_64, ty_65, ty_66, ty_67, ty_68, ty_69, ty_70, ty_71, ty_72, ty_73, ty_74, ty_75, ty_76, ty_77, ty_78, ty_79, ty_80, ty_81, ty_82, ty_83, ty_84, ty_85, ty_86, ty_87, ty_88, ty_89, ty_90, ty_91, ty_92, ty_93, ty_94, ty_95, ty_96, ty_97, ty_98, ty_99, pl_3_10, pl_4_3, pl_5_3, pl_10_9, pl_10_11, pl_10_13, pl_13_1, pl_13_7, pl_16_6, pl_18_6, pl_19_1, pl_27_6, pl_27_11, pl_33_17, pl_35_4, pl_35_6, pl_36_10, pl_37_10, pl_39_3, pl_40_5, pl_40_11, pl_40_16, pl_40_17, pl_40_22, pl_40_23, pl_42_1, pl_42_3, pl_42_5, pl_42_8, pl_43_1, pl_43_3, pl_43_5, pl_43_8, pl_43_10, pl_43_13, pl_43_15, pl_43_18, pl_43_21, pl_46_3, pl_46_5, pl_46_6, pl_48_1, pl_48_2, pl_48_3, pl_52_1, lp, hty, h1, h2, h5, h6, hz, hl2, hlt', hb] at hx
      exact ⟨_, by rw [← hx], by simp [T.get_set_ite, h5, szL, hb]⟩
    | true =>
      have hkm : k < m := by rw [ltI_eq] at hb; simpa using hb
      have hw1 : wr .i64 (m - k) = m - k := by rw [wr_eq]; exact wrap_i64_in (by omega) (by omega)
      have hsz := szF_le t (m - k)
      have hw2 : wr .i64 (k + szF t (m - k)) = k + szF t (m - k) := by rw [wr_eq]; exact wrap_i64_in (by omega) (by omega)
      have hcall := fun h => hc t (m - k) h (Nat.le_trans (dep_mem htm) hd) (fits_mem.1 hf t htm) (by omega)
      have hcl : ∃ a b c, t.av = .agg [a, b, c] := by cases t; exact ⟨_, _, _, rfl⟩
      obtain ⟨a0, a1, a2, ha⟩ := hcl
      rw [ha] at hat hcall
      simp [b9_0, loopOf, Try.f7, loops, cdL_seq, cdL_region, cdL_drawn, cdL_cond, cdL_block, cdL_skip, cdL_label, cdL_exit, cdL_ret, endL, evSeq, evOne, evAct, evOp, opKind, evPure, evRead, evNew, evWrite, evSlice, natOf, optVal, readAt, AV.cells, wantedA, putTm, val, allVals, evBin, evInt, evStr, evAppend, denseFrom, sizesAre, onesIn, evPlan, recheck, AV.beq_refl, H.new, H.put, fillF, fillAt, allOne, AV.one, setArgs, evRes, resOf, ofVal, ofVal0, blt_dec, ble_dec, beq_dec, T.get_set_ite, T.get_e, isShift, ikBeq, ty_0, ty_1, ty_2, ty_3, ty_4, ty_5, ty_6, ty_7, ty_8, ty_9, ty_10, ty_11, ty_12, ty_13, ty_14, ty_15, ty_16, ty_17, ty_18, ty_19, ty_20, ty_21, ty_22, ty_23, ty_24, ty_25, ty_26, ty_27, ty_28, ty_29, ty_30, ty_31, ty_32, ty_33, ty_34, ty_35, ty_36, ty_37, ty_38, ty_39, ty_40, ty_41, ty_42, ty_43, ty_44, ty_45, ty_46, ty_47, ty_48, ty_49, ty_50, ty_51, ty_52, ty_53, ty_54, ty_55, ty_56, ty_57, ty_58, ty_59, ty_60, ty_61, ty_62, ty_63, ty_64, ty_65, ty_66, ty_67, ty_68, ty_69, ty_70, ty_71, ty_72, ty_73, ty_74, ty_75, ty_76, ty_77, ty_78, ty_79, ty_80, ty_81, ty_82, ty_83, ty_84, ty_85, ty_86, ty_87, ty_88, ty_89, ty_90, ty_91, ty_92, ty_93, ty_94, ty_95, ty_96, ty_97, ty_98, ty_99, pl_3_10, pl_4_3, pl_5_3, pl_10_9, pl_10_11, pl_10_13, pl_13_1, pl_13_7, pl_16_6, pl_18_6, pl_19_1, pl_27_6, pl_27_11, pl_33_17, pl_35_4, pl_35_6, pl_36_10, pl_37_10, pl_39_3, pl_40_5, pl_40_11, pl_40_16, pl_40_17, pl_40_22, pl_40_23, pl_42_1, pl_42_3, pl_42_5, pl_42_8, pl_43_1, pl_43_3, pl_43_5, pl_43_8, pl_43_10, pl_43_13, pl_43_15, pl_43_18, pl_43_21, pl_46_3, pl_46_5, pl_46_6, pl_48_1, pl_48_2, pl_48_3, pl_52_1, lp, hty, h1, h2, h5, h6, hz, hl2, hlt', hb, hat, hw, hw1, hw2, hcall, isub] at hx
      rw [hR] at hx
      obtain ⟨tm', g0, g1⟩ := loop9 hm hl hf hd hc l (i + 1) (k + szF t (m - k)) hx hd' hlt (by omega) (by omega) (by simp [T.get_set_ite, h1]) (by simp [T.get_set_ite, h2]) (by simp [T.get_set_ite]) (by simp [T.get_set_ite]) hz
      exact ⟨tm', g0, by rw [g1, szL, hb]; rfl⟩
end
end Go.Proofs.Ytcmbpfobdgijjaa.Env
/- Size, each, Is, Same as primitives. -/
set_option autoImplicit false
set_option maxRecDepth 100000
set_option linter.unusedSimpArgs false
set_option linter.unusedVariables false
set_option linter.unusedSectionVars false
namespace Go.Proofs.Ytcmbpfobdgijjaa.Env
open Go.Ev

/-! ### Size -/
def q9 (d : Nat) (t : Ty) (m : Int) : Prop := dep t ≤ d ∧ fit t ∧ 0 ≤ m ∧ m ≤ 4000
def q9' (t : Ty) (m : Int) : Prop := fit t ∧ 0 ≤ m ∧ m ≤ 4000
noncomputable abbrev pd9 (d : Nat) := primVal (ofRel (Rel2 (q9 d) szF))
noncomputable abbrev p9 := primVal (ofRel (Rel2 q9' szF))
theorem dep_pos (t : Ty) : 1 ≤ dep t := by cases t; simp [dep]
theorem prim_empty {α β δ : Type} [Enc α] [Enc β] [Enc δ] {q : α → β → Prop} {F : α → β → δ} (hq : ∀ a b, ¬ q a b) (a : List AV) (h : H) : primVal (ofRel (Rel2 q F)) a h = none := by
  unfold primVal
  cases hv : ofRel (Rel2 q F) a with
  | none => rfl
  | some v => obtain ⟨x, y, _, h2, _⟩ := ofRel_some hv; exact absurd h2 (hq x y)
theorem prim_empty1 {α δ : Type} [Enc α] [Enc δ] {q : α → Prop} {F : α → δ} (hq : ∀ a, ¬ q a) (a : List AV) (h : H) : primVal (ofRel (Rel1 q F)) a h = none := by
  unfold primVal
  cases hv : ofRel (Rel1 q F) a with
  | none => rfl
  | some v => obtain ⟨x, _, h2, _⟩ := ofRel_some hv; exact absurd h2 (hq x)
theorem prim_empty3 {α β γ δ : Type} [Enc α] [Enc β] [Enc γ] [Enc δ] {q : α → β → γ → Prop} {F : α → β → γ → δ} (hq : ∀ a b c, ¬ q a b c) (a : List AV) (h : H) : primVal (ofRel (Rel3 q F)) a h = none := by
  unfold primVal
  cases hv : ofRel (Rel3 q F) a with
  | none => rfl
  | some v => obtain ⟨x, y, z, _, h2, _⟩ := ofRel_some hv; exact absurd h2 (hq x y z)
theorem union1 {α δ : Type} [Enc α] [Enc δ] {q : Nat → α → Prop} {q' : α → Prop} {F : α → δ} (hq : ∀ a, q' a → ∃ d, q d a) (a : List AV) (h : H) (r : AV × H) (hr : primVal (ofRel (Rel1 q' F)) a h = some r) : ∃ d, primVal (ofRel (Rel1 (q d) F)) a h = some r := by
  unfold primVal at hr
  cases hv : ofRel (Rel1 q' F) a with
  | none => rw [hv] at hr; simp at hr
  | some v =>
    rw [hv] at hr
    obtain ⟨x, h1, h2, h3⟩ := ofRel_some hv
    obtain ⟨d, hd⟩ := hq x h2
    refine ⟨d, ?_⟩
    unfold primVal
    rw [ofRel_of (R := Rel1 (q d) F) ⟨x, h1, hd, h3⟩ (fun u ⟨b, g1, _, g2⟩ => by
      obtain ⟨y, k, rfl, w1, w2⟩ : ∃ y k, a = y :: k ∧ y.wk 0 (Enc.enc x) ∧ AV.wks 0 k [] := by
        cases a with
        | nil => exact absurd (wks_iff.1 h1).1 (by simp)
        | cons y k => exact ⟨y, k, rfl, wks_cons.1 h1⟩
      rw [g2, h3, Enc.inj (wks_cons.1 g1).1 w1])]
    exact hr
theorem union2 {α β δ : Type} [Enc α] [Enc β] [Enc δ] {q : Nat → α → β → Prop} {q' : α → β → Prop} {F : α → β → δ} (hq : ∀ a b, q' a b → ∃ d, q d a b) (a : List AV) (h : H) (r : AV × H) (hr : primVal (ofRel (Rel2 q' F)) a h = some r) : ∃ d, primVal (ofRel (Rel2 (q d) F)) a h = some r := by
  unfold primVal at hr
  cases hv : ofRel (Rel2 q' F) a with
  | none => rw [hv] at hr; simp at hr
  | some v =>
    rw [hv] at hr
    obtain ⟨x, y, h1, h2, h3⟩ := ofRel_some hv
    obtain ⟨d, hd⟩ := hq x y h2
    refine ⟨d, ?_⟩
    unfold primVal
    rw [ofRel_of (R := Rel2 (q d) F) ⟨x, y, h1, hd, h3⟩ (fun u ⟨b, c, g1, _, g2⟩ => by
      match a, h1, g1 with
      | [u0, u1], h1, g1 =>
        obtain ⟨w1, w2⟩ := wks_cons.1 h1
        obtain ⟨w3, w4⟩ := wks_cons.1 g1
        rw [g2, h3, Enc.inj w3 w1, Enc.inj (wks1.1 w4) (wks1.1 w2)]
      | [], h1, _ => exact absurd (wks_iff.1 h1).1 (by simp)
      | [_], h1, _ => exact absurd (wks_iff.1 h1).1 (by simp)
      | _ :: _ :: _ :: _, h1, _ => exact absurd (wks_iff.1 h1).1 (by simp))]
    exact hr
theorem union3 {α β γ δ : Type} [Enc α] [Enc β] [Enc γ] [Enc δ] {q : Nat → α → β → γ → Prop} {q' : α → β → γ → Prop} {F : α → β → γ → δ} (hq : ∀ a b c, q' a b c → ∃ d, q d a b c) (a : List AV) (h : H) (r : AV × H) (hr : primVal (ofRel (Rel3 q' F)) a h = some r) : ∃ d, primVal (ofRel (Rel3 (q d) F)) a h = some r := by
  unfold primVal at hr
  cases hv : ofRel (Rel3 q' F) a with
  | none => rw [hv] at hr; simp at hr
  | some v =>
    rw [hv] at hr
    obtain ⟨x, y, z, h1, h2, h3⟩ := ofRel_some hv
    obtain ⟨d, hd⟩ := hq x y z h2
    refine ⟨d, ?_⟩
    unfold primVal
    rw [ofRel_of (R := Rel3 (q d) F) ⟨x, y, z, h1, hd, h3⟩ (fun u ⟨b, c, e, g1, _, g2⟩ => by
      match a, h1, g1 with
      | [u0, u1, u2], h1, g1 =>
        obtain ⟨w1, w2⟩ := wks_cons.1 h1
        obtain ⟨w3, w4⟩ := wks_cons.1 g1
        obtain ⟨w5, w6⟩ := wks_cons.1 w2
        obtain ⟨w7, w8⟩ := wks_cons.1 w4
        rw [g2, h3, Enc.inj w3 w1, Enc.inj w7 w5, Enc.inj (wks1.1 w8) (wks1.1 w6)]
      | [], h1, _ => exact absurd (wks_iff.1 h1).1 (by simp)
      | [_], h1, _ => exact absurd (wks_iff.1 h1).1 (by simp)
      | [_, _], h1, _ => exact absurd (wks_iff.1 h1).1 (by simp)
      | _ :: _ :: _ :: _ :: _, h1, _ => exact absurd (wks_iff.1 h1).1 (by simp))]
    exact hr
theorem pd9_ok : ∀ d, PrimOk Try.prog 7 (pd9 d) := prim_rec envA_ok (prim_none Try.func7 (by kernel_rfl) (by kernel_rfl) (prim_empty fun a b h => by have := dep_pos a; have := h.1; omega)) fun d hE => by
  refine prim2_ok hE (fn := Try.f7) (by kernel_rfl) body9 (by kernel_rfl) fun t m hq => ?_
  obtain ⟨hdp, hf, hm⟩ := hq
  obtain ⟨o, n, ks⟩ := t
  simp only [dep] at hdp
  simp only [fit] at hf
  have hcall : ∀ t m h, dep t ≤ d → fit t → 0 ≤ m ∧ m ≤ 4000 → evL (addPrim envA 7 (pd9 d)) 7 [t.av, .int .i64 m] h = some (.int .i64 (szF t m), h) := fun t m h h1 h2 h3 =>
    prim2_call (a := t) (b := m) (F := szF) (q := q9 d) (by kernel_rfl) (Enc.bare 0 t) (Enc.bare 0 m) ⟨h1, h2, h3⟩ h
  generalize hEe : addPrim envA 7 (pd9 d) = E at *
  have hty : E.ty = env.ty := by rw [← hEe]; rfl
  have hpl : E.plan = env.plan := by rw [← hEe]; rfl
  unfold bodyL
  simp only [codeAt, sub, Try.f7]
  simp [cdL_seq, cdL_region, cdL_drawn, cdL_cond, cdL_block, cdL_skip, cdL_label, cdL_exit, cdL_ret, endL, evSeq, evOne, evAct, evOp, opKind, evPure, evRead, evNew, evWrite, evSlice, natOf, optVal, readAt, AV.cells, wantedA, putTm, val, allVals, evBin, evInt, evStr, evAppend, denseFrom, sizesAre, onesIn, evPlan, recheck, AV.beq_refl, H.new, H.put, fillF, fillAt, allOne, AV.one, setArgs, evRes, resOf, ofVal, ofVal0, blt_dec, ble_dec, beq_dec, T.get_set_ite, T.get_e, isShift, ikBeq, ty_0, ty_1, ty_2, ty_3, ty_4, ty_5, ty_6, ty_7, ty_8, ty_9, ty_10, ty_11, ty_12, ty_13, ty_14, ty_15, ty_16, ty_17, ty_18, ty_19, ty_20, ty_21, ty_22, ty_23, ty_24, ty_25, ty_26, ty_27, ty_28, ty_29, ty_30, ty_31, ty_32, ty_33, ty_34, ty_35, ty_36, ty_37, ty_38, ty_39, ty_40, ty_41, ty_42, ty_43, ty_44, ty_45, ty_46, ty_47, ty_48, ty_49, ty_50, ty_51, ty_52, ty_53, ty_54, ty_55, ty_56, ty_57, ty_58, ty_59, ty_60, ty_61, ty_62, ty_63, ty_64, ty_65, ty_66, ty_67, ty_68, ty_69, ty_70, ty_71, ty_72, ty_73, ty_74, ty_75, ty_76, ty_77, ty_78, ty_79, ty_80, ty_81, ty_82, ty_83, ty_84, ty_85, ty_86, ty_87, ty_88, ty_89, ty_90, ty_91, ty_92, ty_93, ty_94, ty_95, ty_96, ty_97, ty_98, ty_99, pl_3_10, pl_4_3, pl_5_3, pl_10_9, pl_10_11, pl_10_13, pl_13_1, pl_13_7, pl_16_6, pl_18_6, pl_19_1, pl_27_6, pl_27_11, pl_33_17, pl_35_4, pl_35_6, pl_36_10, pl_37_10, pl_39_3, pl_40_5, pl_40_11, pl_40_16, pl_40_17, pl_40_22, pl_40_23, pl_42_1, pl_42_3, pl_42_5, pl_42_8, pl_43_1, pl_43_3, pl_43_5, pl_43_8, pl_43_10, pl_43_13, pl_43_15, pl_43_18, pl_43_21, pl_46_3, pl_46_5, pl_46_6, pl_48_1, pl_48_2, pl_48_3, pl_52_1, hty, hpl, Enc.enc, Ty.av]
  generalize hx : cdL E 7 31 (.loop b9_0) _ _ = x
  obtain ⟨tm', rfl, g5⟩ := loop9 hty (o := o) (n := n) (ks := ks) (d := d) hm hf.1 hf.2.2 (by omega) hcall ks 0 1 hx rfl (Nat.zero_le _) (by omega) (.inr rfl) (by simp [T.get_set_ite]) (by simp [T.get_set_ite]) (by simp [T.get_set_ite]) (by simp [T.get_set_ite]) (by simp [T.get_set_ite])
  simp [cdL_seq, cdL_region, cdL_drawn, cdL_cond, cdL_block, cdL_skip, cdL_label, cdL_exit, cdL_ret, endL, evSeq, evOne, evAct, evOp, opKind, evPure, evRead, evNew, evWrite, evSlice, natOf, optVal, readAt, AV.cells, wantedA, putTm, val, allVals, evBin, evInt, evStr, evAppend, denseFrom, sizesAre, onesIn, evPlan, recheck, AV.beq_refl, H.new, H.put, fillF, fillAt, allOne, AV.one, setArgs, evRes, resOf, ofVal, ofVal0, blt_dec, ble_dec, beq_dec, T.get_set_ite, T.get_e, isShift, ikBeq, ty_0, ty_1, ty_2, ty_3, ty_4, ty_5, ty_6, ty_7, ty_8, ty_9, ty_10, ty_11, ty_12, ty_13, ty_14, ty_15, ty_16, ty_17, ty_18, ty_19, ty_20, ty_21, ty_22, ty_23, ty_24, ty_25, ty_26, ty_27, ty_28, ty_29, ty_30, ty_31, ty_32, ty_33, ty_34, ty_35, ty_36, ty_37, ty_38, ty_39, ty_40, ty_41, ty_42, ty_43, ty_44, ty_45, ty_46, ty_47, ty_48, ty_49, ty_50, ty_51, ty_52, ty_53, ty_54, ty_55, ty_56, ty_57, ty_58, ty_59, ty_60, ty_61, ty_62, ty_63, ty_64, ty_65, ty_66, ty_67, ty_68, ty_69, ty_70, ty_71, ty_72, ty_73, ty_74, ty_75, ty_76, ty_77, ty_78, ty_79, ty_80, ty_81, ty_82, ty_83, ty_84, ty_85, ty_86, ty_87, ty_88, ty_89, ty_90, ty_91, ty_92, ty_93, ty_94, ty_95, ty_96, ty_97, ty_98, ty_99, pl_3_10, pl_4_3, pl_5_3, pl_10_9, pl_10_11, pl_10_13, pl_13_1, pl_13_7, pl_16_6, pl_18_6, pl_19_1, pl_27_6, pl_27_11, pl_33_17, pl_35_4, pl_35_6, pl_36_10, pl_37_10, pl_39_3, pl_40_5, pl_40_11, pl_40_16, pl_40_17, pl_40_22, pl_40_23, pl_42_1, pl_42_3, pl_42_5, pl_42_8, pl_43_1, pl_43_3, pl_43_5, pl_43_8, pl_43_10, pl_43_13, pl_43_15, pl_43_18, pl_43_21, pl_46_3, pl_46_5, pl_46_6, pl_48_1, pl_48_2, pl_48_3, pl_52_1, hty, hpl, g5, szF, AV.wk]
theorem p9_ok : PrimOk Try.prog 7 p9 := prim_union pd9_ok (union2 fun a b h => ⟨dep a, Nat.le_refl _, h⟩)

/-! ### each -/
mutual
def eachF : Ty → Bool
  | .mk o n ks => intBeq (kidsF o) ↑ks.length && (!ltI n 0 && ((natsBeq o varS || intBeq n 0) && eachL ks))
def eachL : List Ty → Bool
  | [] => true
  | t :: l => eachF t && eachL l
end
noncomputable def b26_0 : Code := loopOf Try.f19 0
theorem body26 : Try.f19.body = some (.seq (codeAt Try.f19 [0]) (.seq (codeAt Try.f19 [1, 0]) (.seq (.seq (codeAt Try.f19 [1, 1, 0, 0]) (.block 0 (.loop b26_0))) (codeAt Try.f19 [1, 1, 1])))) := rfl
theorem avs_len (ks : List Ty) : (Ty.avs ks).length = ks.length := by rw [Ty.avs_map, List.length_map]
theorem avs_get {ks : List Ty} {i : Nat} {t : Ty} (h : ks[i]? = some t) : (Ty.avs ks)[i]? = some t.av := by rw [Ty.avs_map, List.getElem?_map, h]; rfl
theorem av_agg (t : Ty) : ∃ a b c, t.av = .agg [a, b, c] := by cases t; exact ⟨_, _, _, rfl⟩
theorem loop26 {E : Env} (hty : E.ty = env.ty) (hpl : E.plan = env.plan) {o : List Nat} {n : Int} {ks : List Ty} {d : Nat} (hl : ks.length ≤ 9223372036854775807) (hf : fits ks) (hd : deps ks ≤ d)
    (hc : ∀ t h, dep t ≤ d → fit t → evL E 19 [t.av] h = some (.bool (eachF t), h)) :
    ∀ (l : List Ty) (i : Nat) {tm : Tm} {h : H} {x : Option (Ex × Tm × H)}, cdL E 19 40 (.loop b26_0) tm h = x → l = ks.drop i → i ≤ ks.length →
    tm.get 1 = some (.ptr (some (0, 0))) → tm.get 3 = some (.int .i64 ↑i) → h.t.get 0 = some (.cells [.str o, .int .i64 n, .sl .no (Ty.avs ks)]) →
    ∃ tm', x = some (bif eachL l then .exit 0 else .ret, tm', h) ∧ (eachL l = false → tm'.get 2 = some (.bool false))
  | [], i, tm, h, x, hx, hd, hi, h1, h3, hz => by
    have hlen := dnil hd hi
    have hl2 : (Ty.avs ks).length = i := by rw [avs_len]; exact hlen
    obtain ⟨R, hR, hx⟩ := loop_step hx
    simp [b26_0, loopOf, Try.f19, loops, cdL_seq, cdL_region, cdL_drawn, cdL_cond, cdL_block, cdL_skip, cdL_label, cdL_exit, cdL_ret, endL, evSeq, evOne, evAct, evOp, opKind, evPure, evRead, evNew, evWrite, evSlice, natOf, optVal, readAt, AV.cells, wantedA, putTm, val, allVals, evBin, evInt, evStr, evAppend, denseFrom, sizesAre, onesIn, evPlan, recheck, AV.beq_refl, H.new, H.put, fillF, fillAt, allOne, AV.one, setArgs, evRes, resOf, ofVal, ofVal0, blt_dec, ble_dec, beq_dec, T.get_set_ite, T.get_e, isShift, ikBeq, ty_0, ty_1, ty_2, ty_3, ty_4, ty_5, ty_6, ty_7, ty_8, ty_9, ty_10, ty_11, ty_12, ty_13, ty_14, ty_15, ty_16, ty_17, ty_18, ty_19, ty_20, ty_21, ty_22, ty_23, ty_24, ty_25, ty_26, ty_27, ty_28, ty_29, ty_30, ty_31, ty_32, ty_33, ty_34, ty_35, ty_36, ty_37, ty_38, ty_39, ty_40, ty_41, ty_42, ty_43, ty_44, ty_45, ty_46, ty_47, ty_48, ty_49, ty_50, ty_51, ty_52, ty_53, ty_54, ty_55, ty_56, ty_57, ty_58, ty_59, ty_60, ty_61, ty_62, ty_63, ty_64, ty_65, ty_66, ty_67, ty_68, ty_69, ty_70, ty_71, ty_72, ty_73, ty_74, ty_75, ty_76, ty_77, ty_78, ty_79, ty_80, ty_81, ty_82, ty_83, ty_84, ty_85, ty_86, ty_87, ty_88, ty_89, ty_90, ty_91, ty_92, ty_93, ty_94, ty_95, ty_96, ty_97, ty_98, ty_99, pl_3_10, pl_4_3, pl_5_3, pl_10_9, pl_10_11, pl_10_13, pl_13_1, pl_13_7, pl_16_6, pl_18_6, pl_19_1, pl_27_6, pl_27_11, pl_33_17, pl_35_4, pl_35_6, pl_36_10, pl_37_10, pl_39_3, pl_40_5, pl_40_11, pl_40_16, pl_40_17, pl_40_22, pl_40_23, pl_42_1, pl_42_3, pl_42_5, pl_42_8, pl_43_1, pl_43_3, pl_43_5, pl_43_8, pl_43_10, pl_43_13, pl_43_15, pl_43_18, pl_43_21, pl_46_3, pl_46_5, pl_46_6, pl_48_1, pl_48_2, pl_48_3, pl_52_1, lp, hty, hpl, h1, h3, hz, hl2, ltI_f] at hx
    exact ⟨_, by rw [← hx]; rfl, by simp [eachL]⟩
  | t :: l, i, tm, h, x, hx, hdr, hi, h1, h3, hz => by
    obtain ⟨hlt, hct, hd'⟩ := dcons hdr
    have hl2 := avs_len ks
    have hat := avs_get hct
    have htm := List.mem_of_getElem? hct
    obtain ⟨R, hR, hx⟩ := loop_step hx
    have hlt' := ltI_t hlt
    have hw := wr_succ (i := i) (by omega)
    have hcall := fun h => hc t h (Nat.le_trans (dep_mem htm) hd) (fits_mem.1 hf t htm)
    obtain ⟨a0, a1, a2, ha⟩ := av_agg t
    rw [ha] at hat hcall
    cases hb : eachF t with
    | false =>
      simp [b26_0, loopOf, Try.f19, loops, cdL_seq, cdL_region, cdL_drawn, cdL_cond, cdL_block, cdL_skip, cdL_label, cdL_exit, cdL_ret, endL, evSeq, evOne, evAct, evOp, opKind, evPure, evRead, evNew, evWrite, evSlice, natOf, optVal, readAt, AV.cells, wantedA, putTm, val, allVals, evBin, evInt, evStr, evAppend, denseFrom, sizesAre, onesIn, evPlan, recheck, AV.beq_refl, H.new, H.put, fillF, fillAt, allOne, AV.one, setArgs, evRes, resOf, ofVal, ofVal0, blt_dec, ble_dec, beq_dec, T.get_set_ite, T.get_e, isShift, ikBeq, ty_0, ty_1, ty_2, ty_3, ty_4, ty_5, ty_6, ty_7, ty_8, ty_9, ty_10, ty_11, ty_12, ty_13, ty_14, ty_15, ty_16, ty_17, ty_18, ty_19, ty_20, ty_21, ty_22, ty_23, ty_24, ty_25, ty_26, ty_27, ty_28, ty_29, ty_30, ty_31, ty_32, ty_33, ty_34, ty_35, ty_36, ty_37, ty_38, ty_39, ty_40, ty_41, ty_42, ty_43, ty_44, ty_45, ty_46, ty_47, ty_48, ty_49, ty_50, ty_51, ty_52, ty_53, ty_54, ty_55, ty_56, ty_57, ty_58, ty_59, ty_60, ty_61, ty_62, ty_63, ty_64, ty_65, ty_66, ty_67, ty_68, ty_69, ty_70, ty_71, ty_72, ty_73, ty_74, ty_75, ty_76, ty_77, ty_78, ty_79, ty_80, ty_81, ty_82, ty_83, ty_84, ty_85, ty_86, ty_87, ty_88, ty_89, ty_90, ty_91, ty_92, ty_93, ty_94, ty_95, ty_96, ty_97, ty_98, ty_99, pl_3_10, pl_4_3, pl_5_3, pl_10_9, pl_10_11, pl_10_13, pl_13_1, pl_13_7, pl_16_6, pl_18_6, pl_19_1, pl_27_6, pl_27_11, pl_33_17, pl_35_4, pl_35_6, pl_36_10, pl_37_10, pl_39_3, pl_40_5, pl_40_11, pl_40_16, pl_40_17, pl_40_22, pl_40_23, pl_42_1, pl_42_3, pl_42_5, pl_42_8, pl_43_1, pl_43_3, pl_43_5, pl_43_8, pl_43_10, pl_43_13, pl_43_15, pl_43_18, pl_43_21, pl_46_3, pl_46_5, pl_46_6, pl_48_1, pl_48_2, pl_48_3, pl_52_1, lp, hty, hpl, h1, h3, hz, hl2, hlt', hat, hw, hcall, hb] at hx
      exact ⟨_, by rw [← hx]; simp [eachL, hb]; rfl, by simp [T.get_set_ite]⟩
    | true =>
      simp [b26_0, loopOf, Try.f19, loops, cdL_seq, cdL_region, cdL_drawn, cdL_cond, cdL_block, cdL_skip, cdL_label, cdL_exit, cdL_ret, endL, evSeq, evOne, evAct, evOp, opKind, evPure, evRead, evNew, evWrite, evSlice, natOf, optVal, readAt, AV.cells, wantedA, putTm, val, allVals, evBin, evInt, evStr, evAppend, denseFrom, sizesAre, onesIn, evPlan, recheck, AV.beq_refl, H.new, H.put, fillF, fillAt, allOne, AV.one, setArgs, evRes, resOf, ofVal, ofVal0, blt_dec, ble_dec, beq_dec, T.get_set_ite, T.get_e, isShift, ikBeq, ty_0, ty_1, ty_2, ty_3, ty_4, ty_5, ty_6, ty_7, ty_8, ty_9, ty_10, ty_11, ty_12, ty_13, ty_14, ty_15, ty_16, ty_17, ty_18, ty_19, ty_20, ty_21, ty_22, ty_23, ty_24, ty_25, ty_26, ty_27, ty_28, ty_29, ty_30, ty_31, ty_32, ty_33, ty_34, ty_35, ty_36, ty_37, ty_38, ty_39, ty_40, ty_41, ty_42, ty_43, ty_44, ty_45, ty_46, ty_47, ty_48, ty_49, ty_50, ty_51, ty_52, ty_53, ty_54, ty_55, ty_56, ty_57, ty_58, ty_59, ty_60, ty_61, ty_62, ty_63, ty_64, ty_65, ty_66, ty_67, ty_68, ty_69, ty_70, ty_71, ty_72, ty_73, ty_74, ty_75, ty_76, ty_77, ty_78, ty_79, ty_80, ty_81, ty_82, ty_83, ty_84, ty_85, ty_86, ty_87, ty_88, ty_89, ty_90, ty_91, ty_92, ty_93, ty_94, ty_95, ty_96, ty_97, ty_98, ty_99, pl_3_10, pl_4_3, pl_5_3, pl_10_9, pl_10_11, pl_10_13, pl_13_1, pl_13_7, pl_16_6, pl_18_6, pl_19_1, pl_27_6, pl_27_11, pl_33_17, pl_35_4, pl_35_6, pl_36_10, pl_37_10, pl_39_3, pl_40_5, pl_40_11, pl_40_16, pl_40_17, pl_40_22, pl_40_23, pl_42_1, pl_42_3, pl_42_5, pl_42_8, pl_43_1, pl_43_3, pl_43_5, pl_43_8, pl_43_10, pl_43_13, pl_43_15, pl_43_18, pl_43_21, pl_46_3, pl_46_5, pl_46_6, pl_48_1, pl_48_2, pl_48_3, pl_52_1, lp, hty, hpl, h1, h3, hz, hl2, hlt', hat, hw, hcall, hb] at hx
      rw [hR] at hx
      have e : eachL (t :: l) = eachL l := by simp [eachL, hb]
      rw [e]
      exact loop26 hty hpl hl hf hd hc l (i + 1) hx hd' hlt (by simp [T.get_set_ite, h1]) (by simp [T.get_set_ite]) hz
noncomputable abbrev pd26 (d : Nat) := primVal (ofRel (Rel1 (fun t => dep t ≤ d ∧ fit t) eachF))
theorem pd26_ok : ∀ d, PrimOk Try.prog 19 (pd26 d) := prim_rec envA_ok (prim_none Try.func19 (by kernel_rfl) (by kernel_rfl) (prim_empty1 fun a h => by have := dep_pos a; have := h.1; omega)) fun d hE => by
  refine prim1_ok hE (fn := Try.f19) (by kernel_rfl) body26 (by kernel_rfl) fun t hq => ?_
  obtain ⟨hdp, hf⟩ := hq
  obtain ⟨o, n, ks⟩ := t
  simp only [dep] at hdp
  simp only [fit] at hf
  have hcall : ∀ t h, dep t ≤ d → fit t → evL (addPrim envA 19 (pd26 d)) 19 [t.av] h = some (.bool (eachF t), h) := fun t h h1 h2 =>
    prim1_call (a := t) (F := eachF) (q := fun t => dep t ≤ d ∧ fit t) (by kernel_rfl) (Enc.bare 0 t) ⟨h1, h2⟩ h
  have hk : ∀ o h, evL (addPrim envA 19 (pd26 d)) 28 [.str o] h = some (.int .i64 (kidsF o), h) := c32 (by kernel_rfl)
  generalize hEe : addPrim envA 19 (pd26 d) = E at *
  have hty : E.ty = env.ty := by rw [← hEe]; rfl
  have hpl : E.plan = env.plan := by rw [← hEe]; rfl
  have hL := fun tm h x => loop26 hty hpl (o := o) (n := n) (ks := ks) (d := d) hf.1 hf.2.2 (by omega) hcall ks 0 (tm := tm) (h := h) (x := x)
  have hl2 := avs_len ks
  have e0 : eachF (.mk o n ks) = (intBeq (kidsF o) ↑ks.length && (!ltI n 0 && ((natsBeq o varS || intBeq n 0) && eachL ks))) := by simp [eachF]
  unfold bodyL
  have hv : natsBeq o varS = natsBeq o [118, 97, 114] := rfl
  cases h1 : intBeq (kidsF o) ↑ks.length
  case false =>
    rw [e0]
    simp only [codeAt, sub, Try.f19]
    simp [cdL_seq, cdL_region, cdL_drawn, cdL_cond, cdL_block, cdL_skip, cdL_label, cdL_exit, cdL_ret, endL, evSeq, evOne, evAct, evOp, opKind, evPure, evRead, evNew, evWrite, evSlice, natOf, optVal, readAt, AV.cells, wantedA, putTm, val, allVals, evBin, evInt, evStr, evAppend, denseFrom, sizesAre, onesIn, evPlan, recheck, AV.beq_refl, H.new, H.put, fillF, fillAt, allOne, AV.one, setArgs, evRes, resOf, ofVal, ofVal0, blt_dec, ble_dec, beq_dec, T.get_set_ite, T.get_e, isShift, ikBeq, ty_0, ty_1, ty_2, ty_3, ty_4, ty_5, ty_6, ty_7, ty_8, ty_9, ty_10, ty_11, ty_12, ty_13, ty_14, ty_15, ty_16, ty_17, ty_18, ty_19, ty_20, ty_21, ty_22, ty_23, ty_24, ty_25, ty_26, ty_27, ty_28, ty_29, ty_30, ty_31, ty_32, ty_33, ty_34, ty_35, ty_36, ty_37, ty_38, ty_39, ty_40, ty_41, ty_42, ty_43, ty_44, ty_45, ty_46, ty_47, ty_48, ty_49, ty_50, ty_51, ty_52, ty_53, ty_54, ty_55, ty_56, ty_57, ty_58, ty_59, ty_60, ty_61, ty_62, ty_63, ty_64, ty_65, ty_66, ty_67, ty_68, ty_69, ty_70, ty_71, ty_72, ty_73, ty_74, ty_75, ty_76, ty_77, ty_78, ty_79, ty_80, ty_81, ty_82, ty_83, ty_84, ty_85, ty_86, ty_87, ty_88, ty_89, ty_90, ty_91, ty_92, ty_93, ty_94, ty_95, ty_96, ty_97, ty_98, ty_99, pl_3_10, pl_4_3, pl_5_3, pl_10_9, pl_10_11, pl_10_13, pl_13_1, pl_13_7, pl_16_6, pl_18_6, pl_19_1, pl_27_6, pl_27_11, pl_33_17, pl_35_4, pl_35_6, pl_36_10, pl_37_10, pl_39_3, pl_40_5, pl_40_11, pl_40_16, pl_40_17, pl_40_22, pl_40_23, pl_42_1, pl_42_3, pl_42_5, pl_42_8, pl_43_1, pl_43_3, pl_43_5, pl_43_8, pl_43_10, pl_43_13, pl_43_15, pl_43_18, pl_43_21, pl_46_3, pl_46_5, pl_46_6, pl_48_1, pl_48_2, pl_48_3, pl_52_1, hty, hpl, Enc.enc, Ty.av, hk, hl2, h1, AV.wk]
  cases h2 : ltI n 0
  case true =>
    rw [e0]
    simp only [codeAt, sub, Try.f19]
    simp [cdL_seq, cdL_region, cdL_drawn, cdL_cond, cdL_block, cdL_skip, cdL_label, cdL_exit, cdL_ret, endL, evSeq, evOne, evAct, evOp, opKind, evPure, evRead, evNew, evWrite, evSlice, natOf, optVal, readAt, AV.cells, wantedA, putTm, val, allVals, evBin, evInt, evStr, evAppend, denseFrom, sizesAre, onesIn, evPlan, recheck, AV.beq_refl, H.new, H.put, fillF, fillAt, allOne, AV.one, setArgs, evRes, resOf, ofVal, ofVal0, blt_dec, ble_dec, beq_dec, T.get_set_ite, T.get_e, isShift, ikBeq, ty_0, ty_1, ty_2, ty_3, ty_4, ty_5, ty_6, ty_7, ty_8, ty_9, ty_10, ty_11, ty_12, ty_13, ty_14, ty_15, ty_16, ty_17, ty_18, ty_19, ty_20, ty_21, ty_22, ty_23, ty_24, ty_25, ty_26, ty_27, ty_28, ty_29, ty_30, ty_31, ty_32, ty_33, ty_34, ty_35, ty_36, ty_37, ty_38, ty_39, ty_40, ty_41, ty_42, ty_43, ty_44, ty_45, ty_46, ty_47, ty_48, ty_49, ty_50, ty_51, ty_52, ty_53, ty_54, ty_55, ty_56, ty_57, ty_58, ty_59, ty_60, ty_61, ty_62, ty_63, ty_64, ty_65, ty_66, ty_67, ty_68, ty_69, ty_70, ty_71, ty_72, ty_73, ty_74, ty_75, ty_76, ty_77, ty_78, ty_79, ty_80, ty_81, ty_82, ty_83, ty_84, ty_85, ty_86, ty_87, ty_88, ty_89, ty_90, ty_91, ty_92, ty_93, ty_94, ty_95, ty_96, ty_97, ty_98, ty_99, pl_3_10, pl_4_3, pl_5_3, pl_10_9, pl_10_11, pl_10_13, pl_13_1, pl_13_7, pl_16_6, pl_18_6, pl_19_1, pl_27_6, pl_27_11, pl_33_17, pl_35_4, pl_35_6, pl_36_10, pl_37_10, pl_39_3, pl_40_5, pl_40_11, pl_40_16, pl_40_17, pl_40_22, pl_40_23, pl_42_1, pl_42_3, pl_42_5, pl_42_8, pl_43_1, pl_43_3, pl_43_5, pl_43_8, pl_43_10, pl_43_13, pl_43_15, pl_43_18, pl_43_21, pl_46_3, pl_46_5, pl_46_6, pl_48_1, pl_48_2, pl_48_3, pl_52_1, hty, hpl, Enc.enc, Ty.av, hk, hl2, h1, h2, AV.wk]
  rw [hv] at e0
  have fin : ∀ (v : Bool), (natsBeq o [118, 97, 114] = v) → (v = true ∨ intBeq n 0 = true) → ∃ v' h1, endL E.ty Try.f19.results.toList (cdL E 19 Try.f19.ntmps (.seq (codeAt Try.f19 [0]) (.seq (codeAt Try.f19 [1, 0]) (.seq (.seq (codeAt Try.f19 [1, 1, 0, 0]) (.block 0 (.loop b26_0))) (codeAt Try.f19 [1, 1, 1])))) (setArgs 0 [Enc.enc (Ty.mk o n ks)] .e) ⟨.e, 0⟩) = some (v', h1) ∧ v'.wk 0 (Enc.enc (eachL ks)) := by
    intro v hv1 hv2
    simp only [codeAt, sub, Try.f19]
    cases v
    case false =>
      have h4 : intBeq n 0 = true := by simpa using hv2
      simp [cdL_seq, cdL_region, cdL_drawn, cdL_cond, cdL_block, cdL_skip, cdL_label, cdL_exit, cdL_ret, endL, evSeq, evOne, evAct, evOp, opKind, evPure, evRead, evNew, evWrite, evSlice, natOf, optVal, readAt, AV.cells, wantedA, putTm, val, allVals, evBin, evInt, evStr, evAppend, denseFrom, sizesAre, onesIn, evPlan, recheck, AV.beq_refl, H.new, H.put, fillF, fillAt, allOne, AV.one, setArgs, evRes, resOf, ofVal, ofVal0, blt_dec, ble_dec, beq_dec, T.get_set_ite, T.get_e, isShift, ikBeq, ty_0, ty_1, ty_2, ty_3, ty_4, ty_5, ty_6, ty_7, ty_8, ty_9, ty_10, ty_11, ty_12, ty_13, ty_14, ty_15, ty_16, ty_17, ty_18, ty_19, ty_20, ty_21, ty_22, ty_23, ty_24, ty_25, ty_26, ty_27, ty_28, ty_29, ty_30, ty_31, ty_32, ty_33, ty_34, ty_35, ty_36, ty_37, ty_38, ty_39, ty_40, ty_41, ty_42, ty_43, ty_44, ty_45, ty_46, ty_47, ty_48, ty_49, ty_50, ty_51, ty_52, ty_53, ty_54, ty_55, ty_56, ty_57, ty_58, ty_59, ty_60, ty_61, ty_62, ty_63, ty_64, ty_65, ty_66, ty_67, ty_68, ty_69, ty_70, ty_71, ty_72, ty_73, ty_74, ty_75, ty_76, ty_77, ty_78, ty_79, ty_80, ty_81, ty_82, ty_83, ty_84, ty_85, ty_86, ty_87, ty_88, ty_89, ty_90, ty_91, ty_92, ty_93, ty_94, ty_95, ty_96, ty_97, ty_98, ty_99, pl_3_10, pl_4_3, pl_5_3, pl_10_9, pl_10_11, pl_10_13, pl_13_1, pl_13_7, pl_16_6, pl_18_6, pl_19_1, pl_27_6, pl_27_11, pl_33_17, pl_35_4, pl_35_6, pl_36_10, pl_37_10, pl_39_3, pl_40_5, pl_40_11, pl_40_16, pl_40_17, pl_40_22, pl_40_23, pl_42_1, pl_42_3, pl_42_5, pl_42_8, pl_43_1, pl_43_3, pl_43_5, pl_43_8, pl_43_10, pl_43_13, pl_43_15, pl_43_18, pl_43_21, pl_46_3, pl_46_5, pl_46_6, pl_48_1, pl_48_2, pl_48_3, pl_52_1, hty, hpl, Enc.enc, Ty.av, hk, hl2, h1, h2, hv1, h4, bytesOf]
      generalize hx : cdL E 19 40 (.loop b26_0) _ _ = x
      obtain ⟨tm', rfl, g⟩ := hL _ _ _ hx rfl (Nat.zero_le _) (by simp [T.get_set_ite]) (by simp [T.get_set_ite]) (by simp [T.get_set_ite])
      cases hb : eachL ks with
      | true => simp [cdL_seq, cdL_region, cdL_drawn, cdL_cond, cdL_block, cdL_skip, cdL_label, cdL_exit, cdL_ret, endL, evSeq, evOne, evAct, evOp, opKind, evPure, evRead, evNew, evWrite, evSlice, natOf, optVal, readAt, AV.cells, wantedA, putTm, val, allVals, evBin, evInt, evStr, evAppend, denseFrom, sizesAre, onesIn, evPlan, recheck, AV.beq_refl, H.new, H.put, fillF, fillAt, allOne, AV.one, setArgs, evRes, resOf, ofVal, ofVal0, blt_dec, ble_dec, beq_dec, T.get_set_ite, T.get_e, isShift, ikBeq, ty_0, ty_1, ty_2, ty_3, ty_4, ty_5, ty_6, ty_7, ty_8, ty_9, ty_10, ty_11, ty_12, ty_13, ty_14, ty_15, ty_16, ty_17, ty_18, ty_19, ty_20, ty_21, ty_22, ty_23, ty_24, ty_25, ty_26, ty_27, ty_28, ty_29, ty_30, ty_31, ty_32, ty_33, ty_34, ty_35, ty_36, ty_37, ty_38, ty_39, ty_40, ty_41, ty_42, ty_43, ty_44, ty_45, ty_46, ty_47, ty_48, ty_49, ty_50, ty_51, ty_52, ty_53, ty_54, ty_55, ty_56, ty_57, ty_58, ty_59, ty_60, ty_61, ty_62, ty_63, ty_64, ty_65, ty_66, ty_67, ty_68, ty_69, ty_70, ty_71, ty_72, ty_73, ty_74, ty_75, ty_76, ty_77, ty_78, ty_79, ty_80, ty_81, ty_82, ty_83, ty_84, ty_85, ty_86, ty_87, ty_88, ty_89, ty_90, ty_91, ty_92, ty_93, ty_94, ty_95, ty_96, ty_97, ty_98, ty_99, pl_3_10, pl_4_3, pl_5_3, pl_10_9, pl_10_11, pl_10_13, pl_13_1, pl_13_7, pl_16_6, pl_18_6, pl_19_1, pl_27_6, pl_27_11, pl_33_17, pl_35_4, pl_35_6, pl_36_10, pl_37_10, pl_39_3, pl_40_5, pl_40_11, pl_40_16, pl_40_17, pl_40_22, pl_40_23, pl_42_1, pl_42_3, pl_42_5, pl_42_8, pl_43_1, pl_43_3, pl_43_5, pl_43_8, pl_43_10, pl_43_13, pl_43_15, pl_43_18, pl_43_21, pl_46_3, pl_46_5, pl_46_6, pl_48_1, pl_48_2, pl_48_3, pl_52_1, hty, hpl, AV.wk]
      | false => simp [cdL_seq, cdL_region, cdL_drawn, cdL_cond, cdL_block, cdL_skip, cdL_label, cdL_exit, cdL_ret, endL, evSeq, evOne, evAct, evOp, opKind, evPure, evRead, evNew, evWrite, evSlice, natOf, optVal, readAt, AV.cells, wantedA, putTm, val, allVals, evBin, evInt, evStr, evAppend, denseFrom, sizesAre, onesIn, evPlan, recheck, AV.beq_refl, H.new, H.put, fillF, fillAt, allOne, AV.one, setArgs, evRes, resOf, ofVal, ofVal0, blt_dec, ble_dec, beq_dec, T.get_set_ite, T.get_e, isShift, ikBeq, ty_0, ty_1, ty_2, ty_3, ty_4, ty_5, ty_6, ty_7, ty_8, ty_9, ty_10, ty_11, ty_12, ty_13, ty_14, ty_15, ty_16, ty_17, ty_18, ty_19, ty_20, ty_21, ty_22, ty_23, ty_24, ty_25, ty_26, ty_27, ty_28, ty_29, ty_30, ty_31, ty_32, ty_33, ty_34, ty_35, ty_36, ty_37, ty_38, ty_39, ty_40, ty_41, ty_42, ty_43, ty_44, ty_45, ty_46, ty_47, ty_48, ty_49, ty_50, ty_51, ty_52, ty_53, ty_54, ty_55, ty_56, ty_57, ty_58, ty_59, ty_60, ty_61, ty_62, ty_63, ty_64, ty_65, ty_66, ty_67, ty_68, ty_69, ty_70, ty_71, ty_72, ty_73, ty_74, ty_75, ty_76, ty_77, ty_78, ty_79, ty_80, ty_81, ty_82, ty_83, ty_84, ty_85, ty_86, ty_87, ty_88, ty_89, ty_90, ty_91, ty_92, ty_93, ty_94, ty_95, ty_96, ty_97, ty_98, ty_99, pl_3_10, pl_4_3, pl_5_3, pl_10_9, pl_10_11, pl_10_13, pl_13_1, pl_13_7, pl_16_6, pl_18_6, pl_19_1, pl_27_6, pl_27_11, pl_33_17, pl_35_4, pl_35_6, pl_36_10, pl_37_10, pl_39_3, pl_40_5, pl_40_11, pl_40_16, pl_40_17, pl_40_22, pl_40_23, pl_42_1, pl_42_3, pl_42_5, pl_42_8, pl_43_1, pl_43_3, pl_43_5, pl_43_8, pl_43_10, pl_43_13, pl_43_15, pl_43_18, pl_43_21, pl_46_3, pl_46_5, pl_46_6, pl_48_1, pl_48_2, pl_48_3, pl_52_1, hty, hpl, g hb, AV.wk]
    case true =>
      simp [cdL_seq, cdL_region, cdL_drawn, cdL_cond, cdL_block, cdL_skip, cdL_label, cdL_exit, cdL_ret, endL, evSeq, evOne, evAct, evOp, opKind, evPure, evRead, evNew, evWrite, evSlice, natOf, optVal, readAt, AV.cells, wantedA, putTm, val, allVals, evBin, evInt, evStr, evAppend, denseFrom, sizesAre, onesIn, evPlan, recheck, AV.beq_refl, H.new, H.put, fillF, fillAt, allOne, AV.one, setArgs, evRes, resOf, ofVal, ofVal0, blt_dec, ble_dec, beq_dec, T.get_set_ite, T.get_e, isShift, ikBeq, ty_0, ty_1, ty_2, ty_3, ty_4, ty_5, ty_6, ty_7, ty_8, ty_9, ty_10, ty_11, ty_12, ty_13, ty_14, ty_15, ty_16, ty_17, ty_18, ty_19, ty_20, ty_21, ty_22, ty_23, ty_24, ty_25, ty_26, ty_27, ty_28, ty_29, ty_30, ty_31, ty_32, ty_33, ty_34, ty_35, ty_36, ty_37, ty_38, ty_39, ty_40, ty_41, ty_42, ty_43, ty_44, ty_45, ty_46, ty_47, ty_48, ty_49, ty_50, ty_51, ty_52, ty_53, ty_54, ty_55, ty_56, ty_57, ty_58, ty_59, ty_60, ty_61, ty_62, ty_63, ty_64, ty_65, ty_66, ty_67, ty_68, ty_69, ty_70, ty_71, ty_72, ty_73, ty_74, ty_75, ty_76, ty_77, ty_78, ty_79, ty_80, ty_81, ty_82, ty_83, ty_84, ty_85, ty_86, ty_87, ty_88, ty_89, ty_90, ty_91, ty_92, ty_93, ty_94, ty_95, ty_96, ty_97, ty_98, ty_99, pl_3_10, pl_4_3, pl_5_3, pl_10_9, pl_10_11, pl_10_13, pl_13_1, pl_13_7, pl_16_6, pl_18_6, pl_19_1, pl_27_6, pl_27_11, pl_33_17, pl_35_4, pl_35_6, pl_36_10, pl_37_10, pl_39_3, pl_40_5, pl_40_11, pl_40_16, pl_40_17, pl_40_22, pl_40_23, pl_42_1, pl_42_3, pl_42_5, pl_42_8, pl_43_1, pl_43_3, pl_43_5, pl_43_8, pl_43_10, pl_43_13, pl_43_15, pl_43_18, pl_43_21, pl_46_3, pl_46_5, pl_46_6, pl_48_1, pl_48_2, pl_48_3, pl_52_1, hty, hpl, Enc.enc, Ty.av, hk, hl2, h1, h2, hv1, bytesOf]
      generalize hx : cdL E 19 40 (.loop b26_0) _ _ = x
      obtain ⟨tm', rfl, g⟩ := hL _ _ _ hx rfl (Nat.zero_le _) (by simp [T.get_set_ite]) (by simp [T.get_set_ite]) (by simp [T.get_set_ite])
      cases hb : eachL ks with
      | true => simp [cdL_seq, cdL_region, cdL_drawn, cdL_cond, cdL_block, cdL_skip, cdL_label, cdL_exit, cdL_ret, endL, evSeq, evOne, evAct, evOp, opKind, evPure, evRead, evNew, evWrite, evSlice, natOf, optVal, readAt, AV.cells, wantedA, putTm, val, allVals, evBin, evInt, evStr, evAppend, denseFrom, sizesAre, onesIn, evPlan, recheck, AV.beq_refl, H.new, H.put, fillF, fillAt, allOne, AV.one, setArgs, evRes, resOf, ofVal, ofVal0, blt_dec, ble_dec, beq_dec, T.get_set_ite, T.get_e, isShift, ikBeq, ty_0, ty_1, ty_2, ty_3, ty_4, ty_5, ty_6, ty_7, ty_8, ty_9, ty_10, ty_11, ty_12, ty_13, ty_14, ty_15, ty_16, ty_17, ty_18, ty_19, ty_20, ty_21, ty_22, ty_23, ty_24, ty_25, ty_26, ty_27, ty_28, ty_29, ty_30, ty_31, ty_32, ty_33, ty_34, ty_35, ty_36, ty_37, ty_38, ty_39, ty_40, ty_41, ty_42, ty_43, ty_44, ty_45, ty_46, ty_47, ty_48, ty_49, ty_50, ty_51, ty_52, ty_53, ty_54, ty_55, ty_56, ty_57, ty_58, ty_59, ty_60, ty_61, ty_62, ty_63, ty_64, ty_65, ty_66, ty_67, ty_68, ty_69, ty_70, ty_71, ty_72, ty_73, ty_74, ty_75, ty_76, ty_77, ty_78, ty_79, ty_80, ty_81, ty_82, ty_83, ty_84, ty_85, ty_86, ty_87, ty_88, ty_89, ty_90, ty_91, ty_92, ty_93, ty_94, ty_95, ty_96, ty_97, ty_98, ty_99, pl_3_10, pl_4_3, pl_5_3, pl_10_9, pl_10_11, pl_10_13, pl_13_1, pl_13_7, pl_16_6, pl_18_6, pl_19_1, pl_27_6, pl_27_11, pl_33_17, pl_35_4, pl_35_6, pl_36_10, pl_37_10, pl_39_3, pl_40_5, pl_40_11, pl_40_16, pl_40_17, pl_40_22, pl_40_23, pl_42_1, pl_42_3, pl_42_5, pl_42_8, pl_43_1, pl_43_3, pl_43_5, pl_43_8, pl_43_10, pl_43_13, pl_43_15, pl_43_18, pl_43_21, pl_46_3, pl_46_5, pl_46_6, pl_48_1, pl_48_2, pl_48_3, pl_52_1, hty, hpl, AV.wk]
      | false => simp [cdL_seq, cdL_region, cdL_drawn, cdL_cond, cdL_block, cdL_skip, cdL_label, cdL_exit, cdL_ret, endL, evSeq, evOne, evAct, evOp, opKind, evPure, evRead, evNew, evWrite, evSlice, natOf, optVal, readAt, AV.cells, wantedA, putTm, val, allVals, evBin, evInt, evStr, evAppend, denseFrom, sizesAre, onesIn, evPlan, recheck, AV.beq_refl, H.new, H.put, fillF, fillAt, allOne, AV.one, setArgs, evRes, resOf, ofVal, ofVal0, blt_dec, ble_dec, beq_dec, T.get_set_ite, T.get_e, isShift, ikBeq, ty_0, ty_1, ty_2, ty_3, ty_4, ty_5, ty_6, ty_7, ty_8, ty_9, ty_10, ty_11, ty_12, ty_13, ty_14, ty_15, ty_16, ty_17, ty_18, ty_19, ty_20, ty_21, ty_22, ty_23, ty_24, ty_25, ty_26, ty_27, ty_28, ty_29, ty_30, ty_31, ty_32, ty_33, ty_34, ty_35, ty_36, ty_37, ty_38, ty_39, ty_40, ty_41, ty_42, ty_43, ty_44, ty_45, ty_46, ty_47, ty_48, ty_49, ty_50, ty_51, ty_52, ty_53, ty_54, ty_55, ty_56, ty_57, ty_58, ty_59, ty_60, ty_61, ty_62, ty_63, ty_64, ty_65, ty_66, ty_67, ty_68, ty_69, ty_70, ty_71, ty_72, ty_73, ty_74, ty_75, ty_76, ty_77, ty_78, ty_79, ty_80, ty_81, ty_82, ty_83, ty_84, ty_85, ty_86, ty_87, ty_88, ty_89, ty_90, ty_91, ty_92, ty_93, ty_94, ty_95, ty_96, ty_97, ty_98, ty_99, pl_3_10, pl_4_3, pl_5_3, pl_10_9, pl_10_11, pl_10_13, pl_13_1, pl_13_7, pl_16_6, pl_18_6, pl_19_1, pl_27_6, pl_27_11, pl_33_17, pl_35_4, pl_35_6, pl_36_10, pl_37_10, pl_39_3, pl_40_5, pl_40_11, pl_40_16, pl_40_17, pl_40_22, pl_40_23, pl_42_1, pl_42_3, pl_42_5, pl_42_8, pl_43_1, pl_43_3, pl_43_5, pl_43_8, pl_43_10, pl_43_13, pl_43_15, pl_43_18, pl_43_21, pl_46_3, pl_46_5, pl_46_6, pl_48_1, pl_48_2, pl_48_3, pl_52_1, hty, hpl, g hb, AV.wk]
  cases h3 : natsBeq o [118, 97, 114]
  case true =>
    rw [show eachF (.mk o n ks) = eachL ks by rw [e0]; simp [h1, h2, h3]]
    exact fin true h3 (.inl rfl)
  cases h4 : intBeq n 0
  case true =>
    rw [show eachF (.mk o n ks) = eachL ks by rw [e0]; simp [h1, h2, h3, h4]]
    exact fin false h3 (.inr h4)
  rw [e0]
  simp only [codeAt, sub, Try.f19]
  simp [cdL_seq, cdL_region, cdL_drawn, cdL_cond, cdL_block, cdL_skip, cdL_label, cdL_exit, cdL_ret, endL, evSeq, evOne, evAct, evOp, opKind, evPure, evRead, evNew, evWrite, evSlice, natOf, optVal, readAt, AV.cells, wantedA, putTm, val, allVals, evBin, evInt, evStr, evAppend, denseFrom, sizesAre, onesIn, evPlan, recheck, AV.beq_refl, H.new, H.put, fillF, fillAt, allOne, AV.one, setArgs, evRes, resOf, ofVal, ofVal0, blt_dec, ble_dec, beq_dec, T.get_set_ite, T.get_e, isShift, ikBeq, ty_0, ty_1, ty_2, ty_3, ty_4, ty_5, ty_6, ty_7, ty_8, ty_9, ty_10, ty_11, ty_12, ty_13, ty_14, ty_15, ty_16, ty_17, ty_18, ty_19, ty_20, ty_21, ty_22, ty_23, ty_24, ty_25, ty_26, ty_27, ty_28, ty_29, ty_30, ty_31, ty_32, ty_33, ty_34, ty_35, ty_36, ty_37, ty_38, ty_39, ty_40, ty_41, ty_42, ty_43, ty_44, ty_45, ty_46, ty_47, ty_48, ty_49, ty_50, ty_51, ty_52, ty_53, ty_54, ty_55, ty_56, ty_57, ty_58, ty_59, ty_60, ty_61, ty_62, ty_63, ty_64, ty_65, ty_66, ty_67, ty_68, ty_69, ty_70, ty_71, ty_72, ty_73, ty_74, ty_75, ty_76, ty_77, ty_78, ty_79, ty_80, ty_81, ty_82, ty_83, ty_84, ty_85, ty_86, ty_87, ty_88, ty_89, ty_90, ty_91, ty_92, ty_93, ty_94, ty_95, ty_96, ty_97, ty_98, ty_99, pl_3_10, pl_4_3, pl_5_3, pl_10_9, pl_10_11, pl_10_13, pl_13_1, pl_13_7, pl_16_6, pl_18_6, pl_19_1, pl_27_6, pl_27_11, pl_33_17, pl_35_4, pl_35_6, pl_36_10, pl_37_10, pl_39_3, pl_40_5, pl_40_11, pl_40_16, pl_40_17, pl_40_22, pl_40_23, pl_42_1, pl_42_3, pl_42_5, pl_42_8, pl_43_1, pl_43_3, pl_43_5, pl_43_8, pl_43_10, pl_43_13, pl_43_15, pl_43_18, pl_43_21, pl_46_3, pl_46_5, pl_46_6, pl_48_1, pl_48_2, pl_48_3, pl_52_1, hty, hpl, Enc.enc, Ty.av, hk, hl2, h1, h2, h3, h4, bytesOf, AV.wk]
theorem p26_ok : PrimOk Try.prog 19 (primVal (ofRel (Rel1 fit eachF))) := prim_union pd26_ok (union1 fun a h => ⟨dep a, Nat.le_refl _, h⟩)
noncomputable abbrev p26 := primVal (ofRel (Rel1 fit eachF))
end Go.Proofs.Ytcmbpfobdgijjaa.Env
/- Is, Same. -/
set_option autoImplicit false
set_option maxRecDepth 100000
set_option linter.unusedSimpArgs false
set_option linter.unusedVariables false
set_option linter.unusedSectionVars false
namespace Go.Proofs.Ytcmbpfobdgijjaa.Env
open Go.Ev

noncomputable def envB : Env := addPrim (addPrim envA 7 p9) 19 p26
theorem envB_ok : EnvOk Try.prog envB := addPrim_ok (addPrim_ok envA_ok p9_ok) p26_ok
theorem c9 {E : Env} (hp : E.prim 7 = some p9) (t : Ty) (m : Int) (hf : fit t) (hm : 0 ≤ m ∧ m ≤ 4000) (h : H) : evL E 7 [t.av, .int .i64 m] h = some (.int .i64 (szF t m), h) :=
  prim2_call (a := t) (b := m) (F := szF) (q := q9') hp (Enc.bare 0 t) (Enc.bare 0 m) ⟨hf, hm⟩ h
theorem c26 {E : Env} (hp : E.prim 19 = some p26) (t : Ty) (hf : fit t) (h : H) : evL E 19 [t.av] h = some (.bool (eachF t), h) :=
  prim1_call (a := t) (F := eachF) (q := fit) hp (Enc.bare 0 t) hf h
def isF (t : Ty) : Bool := !ltI 2000 (szF t 2001) && eachF t
noncomputable abbrev p10 := primVal (ofRel (Rel1 fit isF))
theorem p10_ok : PrimOk Try.prog 8 p10 := prim1_ok envB_ok (fn := Try.f8) (by kernel_rfl) rfl (by kernel_rfl) fun t hf => by
  have k9 := fun h => c9 (E := envB) (by kernel_rfl) t 2001 hf (by omega) h
  have k26 := fun h => c26 (E := envB) (by kernel_rfl) t hf h
  have hty : envB.ty = env.ty := rfl
  obtain ⟨a, b, c, e⟩ := av_agg t
  unfold bodyL isF
  rw [show (Enc.enc t : AV) = t.av from rfl]
  rw [e] at k9 k26 ⊢
  simp only [Try.f8]
  cases h1 : ltI 2000 (szF t 2001) <;> simp [cdL_seq, cdL_region, cdL_drawn, cdL_cond, cdL_block, cdL_skip, cdL_label, cdL_exit, cdL_ret, endL, evSeq, evOne, evAct, evOp, opKind, evPure, evRead, evNew, evWrite, evSlice, natOf, optVal, readAt, AV.cells, wantedA, putTm, val, allVals, evBin, evInt, evStr, evAppend, denseFrom, sizesAre, onesIn, evPlan, recheck, AV.beq_refl, H.new, H.put, fillF, fillAt, allOne, AV.one, setArgs, evRes, resOf, ofVal, ofVal0, blt_dec, ble_dec, beq_dec, T.get_set_ite, T.get_e, isShift, ikBeq, ty_0, ty_1, ty_2, ty_3, ty_4, ty_5, ty_6, ty_7, ty_8, ty_9, ty_10, ty_11, ty_12, ty_13, ty_14, ty_15, ty_16, ty_17, ty_18, ty_19, ty_20, ty_21, ty_22, ty_23, ty_24, ty_25, ty_26, ty_27, ty_28, ty_29, ty_30, ty_31, ty_32, ty_33, ty_34, ty_35, ty_36, ty_37, ty_38, ty_39, ty_40, ty_41, ty_42, ty_43, ty_44, ty_45, ty_46, ty_47, ty_48, ty_49, ty_50, ty_51, ty_52, ty_53, ty_54, ty_55, ty_56, ty_57, ty_58, ty_59, ty_60, ty_61, ty_62, ty_63, ty_64, ty_65, ty_66, ty_67, ty_68, ty_69, ty_70, ty_71, ty_72, ty_73, ty_74, ty_75, ty_76, ty_77, ty_78, ty_79, ty_80, ty_81, ty_82, ty_83, ty_84, ty_85, ty_86, ty_87, ty_88, ty_89, ty_90, ty_91, ty_92, ty_93, ty_94, ty_95, ty_96, ty_97, ty_98, ty_99, pl_3_10, pl_4_3, pl_5_3, pl_10_9, pl_10_11, pl_10_13, pl_13_1, pl_13_7, pl_16_6, pl_18_6, pl_19_1, pl_27_6, pl_27_11, pl_33_17, pl_35_4, pl_35_6, pl_36_10, pl_37_10, pl_39_3, pl_40_5, pl_40_11, pl_40_16, pl_40_17, pl_40_22, pl_40_23, pl_42_1, pl_42_3, pl_42_5, pl_42_8, pl_43_1, pl_43_3, pl_43_5, pl_43_8, pl_43_10, pl_43_13, pl_43_15, pl_43_18, pl_43_21, pl_46_3, pl_46_5, pl_46_6, pl_48_1, pl_48_2, pl_48_3, pl_52_1, hty, Enc.enc, k9, k26, h1, AV.wk]

/-! ### Same -/
mutual
def sameF : Ty → Ty → Bool
  | .mk o1 n1 k1, .mk o2 n2 k2 => natsBeq o1 o2 && (intBeq n1 n2 && (intBeq ↑k1.length ↑k2.length && sameL k1 k2))
def sameL : List Ty → List Ty → Bool
  | [], [] => true
  | a :: l, b :: m => sameF a b && sameL l m
  | _, _ => false
end
theorem natsBeq_iff {a b : List Nat} : natsBeq a b = true ↔ a = b := by
  constructor
  · induction a generalizing b with
    | nil => cases b <;> simp [natsBeq]
    | cons x a ih =>
      cases b with
      | nil => simp [natsBeq]
      | cons y b =>
        simp only [natsBeq, Bool.and_eq_true]
        rintro ⟨h1, h2⟩
        rw [Nat.eq_of_beq_eq_true h1, ih h2]
  · rintro rfl; exact natsBeq_refl a
theorem intBeq_iff {a b : Int} : intBeq a b = true ↔ a = b := by rw [intBeq_eq]; simp
mutual
theorem sameF_iff : ∀ {a b : Ty}, sameF a b = true ↔ a = b
  | .mk o1 n1 k1, .mk o2 n2 k2 => by
    simp only [sameF, Bool.and_eq_true, natsBeq_iff, intBeq_iff, sameL_iff, Ty.mk.injEq]
    constructor
    · rintro ⟨h1, h2, _, h3⟩; exact ⟨h1, h2, h3⟩
    · rintro ⟨h1, h2, h3⟩; exact ⟨h1, h2, by rw [h3], h3⟩
theorem sameL_iff : ∀ {a b : List Ty}, sameL a b = true ↔ a = b
  | [], [] => by simp [sameL]
  | [], b :: m => by simp [sameL]
  | a :: l, [] => by simp [sameL]
  | a :: l, b :: m => by simp only [sameL, Bool.and_eq_true, sameF_iff, sameL_iff, List.cons.injEq]
end
noncomputable def b15_0 : Code := loopOf Try.f18 0
theorem body15 : Try.f18.body = some (.seq (codeAt Try.f18 [0]) (.seq (codeAt Try.f18 [1, 0]) (.seq (.seq (codeAt Try.f18 [1, 1, 0, 0]) (.block 0 (.loop b15_0))) (codeAt Try.f18 [1, 1, 1])))) := rfl
theorem loop15 {E : Env} (hty : E.ty = env.ty) (hpl : E.plan = env.plan) {o1 o2 : List Nat} {n1 n2 : Int} {k1 k2 : List Ty} {d : Nat} (hl : k1.length ≤ 9223372036854775807) (he : k1.length = k2.length) (hf1 : fits k1) (hf2 : fits k2) (hd : deps k1 ≤ d)
    (hc : ∀ a b h, dep a ≤ d → fit a → fit b → evL E 18 [a.av, b.av] h = some (.bool (sameF a b), h)) :
    ∀ (l m : List Ty) (i : Nat) {tm : Tm} {h : H} {x : Option (Ex × Tm × H)}, cdL E 18 46 (.loop b15_0) tm h = x → l = k1.drop i → m = k2.drop i → i ≤ k1.length →
    tm.get 2 = some (.ptr (some (0, 0))) → tm.get 3 = some (.ptr (some (1, 0))) → tm.get 5 = some (.int .i64 ↑i) → h.t.get 0 = some (.cells [.str o1, .int .i64 n1, .sl .no (Ty.avs k1)]) → h.t.get 1 = some (.cells [.str o2, .int .i64 n2, .sl .no (Ty.avs k2)]) →
    ∃ tm', x = some (bif sameL l m then .exit 0 else .ret, tm', h) ∧ (sameL l m = false → tm'.get 4 = some (.bool false))
  | [], m, i, tm, h, x, hx, hd1, hd2, hi, h2, h3, h5, hz, hz1 => by
    have hlen := dnil hd1 hi
    have : m = [] := by rw [hd2]; exact List.drop_eq_nil_of_le (by omega)
    subst this
    have hl2 : (Ty.avs k1).length = i := by rw [avs_len]; exact hlen
    obtain ⟨R, hR, hx⟩ := loop_step hx
    simp [b15_0, loopOf, Try.f18, loops, cdL_seq, cdL_region, cdL_drawn, cdL_cond, cdL_block, cdL_skip, cdL_label, cdL_exit, cdL_ret, endL, evSeq, evOne, evAct, evOp, opKind, evPure, evRead, evNew, evWrite, evSlice, natOf, optVal, readAt, AV.cells, wantedA, putTm, val, allVals, evBin, evInt, evStr, evAppend, denseFrom, sizesAre, onesIn, evPlan, recheck, AV.beq_refl, H.new, H.put, fillF, fillAt, allOne, AV.one, setArgs, evRes, resOf, ofVal, ofVal0, blt_dec, ble_dec, beq_dec, T.get_set_ite, T.get_e, isShift, ikBeq, ty_0, ty_1, ty_2, ty_3, ty_4, ty_5, ty_6, ty_7, ty_8, ty_9, ty_10, ty_11, ty_12, ty_13, ty_14, ty_15, ty_16, ty_17, ty_18, ty_19, ty_20, ty_21, ty_22, ty_23, ty_24, ty_25, ty_26, ty_27, ty_28, ty_29, ty_30, ty_31, ty_32, ty_33, ty_34, ty_35, ty_36, ty_37, ty_38, ty_39, ty_40, ty_41, ty_42, ty_43, ty_44, ty_45, ty_46, ty_47, ty_48, ty_49, ty_50, ty_51, ty_52, ty_53, ty_54, ty_55, ty_56, ty_57, ty_58, ty_59, ty_60, ty_61, ty_62, ty_63, ty_64, ty_65, ty_66, ty_67, ty_68, ty_69, ty_70, ty_71, ty_72, ty_73, ty_74, ty_75, ty_76, ty_77, ty_78, ty_79, ty_80, ty_81, ty_82, ty_83, ty_84, ty_85, ty_86, ty_87, ty_88, ty_89, ty_90, ty_91, ty_92, ty_93, ty_94, ty_95, ty_96, ty_97, ty_98, ty_99, pl_3_10, pl_4_3, pl_5_3, pl_10_9, pl_10_11, pl_10_13, pl_13_1, pl_13_7, pl_16_6, pl_18_6, pl_19_1, pl_27_6, pl_27_11, pl_33_17, pl_35_4, pl_35_6, pl_36_10, pl_37_10, pl_39_3, pl_40_5, pl_40_11, pl_40_16, pl_40_17, pl_40_22, pl_40_23, pl_42_1, pl_42_3, pl_42_5, pl_42_8, pl_43_1, pl_43_3, pl_43_5, pl_43_8, pl_43_10, pl_43_13, pl_43_15, pl_43_18, pl_43_21, pl_46_3, pl_46_5, pl_46_6, pl_48_1, pl_48_2, pl_48_3, pl_52_1, lp, hty, hpl, h2, h3, h5, hz, hz1, hl2, ltI_f] at hx
    exact ⟨_, by rw [← hx]; rfl, by simp [sameL]⟩
  | a :: l, [], i, tm, h, x, hx, hd1, hd2, hi, h2, h3, h5, hz, hz1 => by
    obtain ⟨hlt, _, _⟩ := dcons hd1
    have := congrArg List.length hd2
    simp at this
    omega
  | a :: l, b :: m, i, tm, h, x, hx, hd1, hd2, hi, h2, h3, h5, hz, hz1 => by
    obtain ⟨hlt, hct, hd'⟩ := dcons hd1
    obtain ⟨hlt2, hct2, hd2'⟩ := dcons hd2
    have hl2 := avs_len k1
    have hat := avs_get hct
    have hbt := avs_get hct2
    have htm := List.mem_of_getElem? hct
    have htm2 := List.mem_of_getElem? hct2
    obtain ⟨R, hR, hx⟩ := loop_step hx
    have hlt' := ltI_t hlt
    have hw := wr_succ (i := i) (by omega)
    have hcall := fun h => hc a b h (Nat.le_trans (dep_mem htm) hd) (fits_mem.1 hf1 a htm) (fits_mem.1 hf2 b htm2)
    obtain ⟨a0, a1, a2, ha⟩ := av_agg a
    obtain ⟨b0, b1, b2, hb0⟩ := av_agg b
    rw [ha] at hat hcall
    rw [hb0] at hbt hcall
    cases hb : sameF a b with
    | false =>
      simp [b15_0, loopOf, Try.f18, loops, cdL_seq, cdL_region, cdL_drawn, cdL_cond, cdL_block, cdL_skip, cdL_label, cdL_exit, cdL_ret, endL, evSeq, evOne, evAct, evOp, opKind, evPure, evRead, evNew, evWrite, evSlice, natOf, optVal, readAt, AV.cells, wantedA, putTm, val, allVals, evBin, evInt, evStr, evAppend, denseFrom, sizesAre, onesIn, evPlan, recheck, AV.beq_refl, H.new, H.put, fillF, fillAt, allOne, AV.one, setArgs, evRes, resOf, ofVal, ofVal0, blt_dec, ble_dec, beq_dec, T.get_set_ite, T.get_e, isShift, ikBeq, ty_0, ty_1, ty_2, ty_3, ty_4, ty_5, ty_6, ty_7, ty_8, ty_9, ty_10, ty_11, ty_12, ty_13, ty_14, ty_15, ty_16, ty_17, ty_18, ty_19, ty_20, ty_21, ty_22, ty_23, ty_24, ty_25, ty_26, ty_27, ty_28, ty_29, ty_30, ty_31, ty_32, ty_33, ty_34, ty_35, ty_36, ty_37, ty_38, ty_39, ty_40, ty_41, ty_42, ty_43, ty_44, ty_45, ty_46, ty_47, ty_48, ty_49, ty_50, ty_51, ty_52, ty_53, ty_54, ty_55, ty_56, ty_57, ty_58, ty_59, ty_60, ty_61, ty_62, ty_63, ty_64, ty_65, ty_66, ty_67, ty_68, ty_69, ty_70, ty_71, ty_72, ty_73, ty_74, ty_75, ty_76, ty_77, ty_78, ty_79, ty_80, ty_81, ty_82, ty_83, ty_84, ty_85, ty_86, ty_87, ty_88, ty_89, ty_90, ty_91, ty_92, ty_93, ty_94, ty_95, ty_96, ty_97, ty_98, ty_99, pl_3_10, pl_4_3, pl_5_3, pl_10_9, pl_10_11, pl_10_13, pl_13_1, pl_13_7, pl_16_6, pl_18_6, pl_19_1, pl_27_6, pl_27_11, pl_33_17, pl_35_4, pl_35_6, pl_36_10, pl_37_10, pl_39_3, pl_40_5, pl_40_11, pl_40_16, pl_40_17, pl_40_22, pl_40_23, pl_42_1, pl_42_3, pl_42_5, pl_42_8, pl_43_1, pl_43_3, pl_43_5, pl_43_8, pl_43_10, pl_43_13, pl_43_15, pl_43_18, pl_43_21, pl_46_3, pl_46_5, pl_46_6, pl_48_1, pl_48_2, pl_48_3, pl_52_1, lp, hty, hpl, h2, h3, h5, hz, hz1, hl2, hlt', hat, hbt, hw, hcall, hb] at hx
      exact ⟨_, by rw [← hx]; simp [sameL, hb]; rfl, by simp [T.get_set_ite]⟩
    | true =>
      simp [b15_0, loopOf, Try.f18, loops, cdL_seq, cdL_region, cdL_drawn, cdL_cond, cdL_block, cdL_skip, cdL_label, cdL_exit, cdL_ret, endL, evSeq, evOne, evAct, evOp, opKind, evPure, evRead, evNew, evWrite, evSlice, natOf, optVal, readAt, AV.cells, wantedA, putTm, val, allVals, evBin, evInt, evStr, evAppend, denseFrom, sizesAre, onesIn, evPlan, recheck, AV.beq_refl, H.new, H.put, fillF, fillAt, allOne, AV.one, setArgs, evRes, resOf, ofVal, ofVal0, blt_dec, ble_dec, beq_dec, T.get_set_ite, T.get_e, isShift, ikBeq, ty_0, ty_1, ty_2, ty_3, ty_4, ty_5, ty_6, ty_7, ty_8, ty_9, ty_10, ty_11, ty_12, ty_13, ty_14, ty_15, ty_16, ty_17, ty_18, ty_19, ty_20, ty_21, ty_22, ty_23, ty_24, ty_25, ty_26, ty_27, ty_28, ty_29, ty_30, ty_31, ty_32, ty_33, ty_34, ty_35, ty_36, ty_37, ty_38, ty_39, ty_40, ty_41, ty_42, ty_43, ty_44, ty_45, ty_46, ty_47, ty_48, ty_49, ty_50, ty_51, ty_52, ty_53, ty_54, ty_55, ty_56, ty_57, ty_58, ty_59, ty_60, ty_61, ty_62, ty_63, ty_64, ty_65, ty_66, ty_67, ty_68, ty_69, ty_70, ty_71, ty_72, ty_73, ty_74, ty_75, ty_76, ty_77, ty_78, ty_79, ty_80, ty_81, ty_82, ty_83, ty_84, ty_85, ty_86, ty_87, ty_88, ty_89, ty_90, ty_91, ty_92, ty_93, ty_94, ty_95, ty_96, ty_97, ty_98, ty_99, pl_3_10, pl_4_3, pl_5_3, pl_10_9, pl_10_11, pl_10_13, pl_13_1, pl_13_7, pl_16_6, pl_18_6, pl_19_1, pl_27_6, pl_27_11, pl_33_17, pl_35_4, pl_35_6, pl_36_10, pl_37_10, pl_39_3, pl_40_5, pl_40_11, pl_40_16, pl_40_17, pl_40_22, pl_40_23, pl_42_1, pl_42_3, pl_42_5, pl_42_8, pl_43_1, pl_43_3, pl_43_5, pl_43_8, pl_43_10, pl_43_13, pl_43_15, pl_43_18, pl_43_21, pl_46_3, pl_46_5, pl_46_6, pl_48_1, pl_48_2, pl_48_3, pl_52_1, lp, hty, hpl, h2, h3, h5, hz, hz1, hl2, hlt', hat, hbt, hw, hcall, hb] at hx
      rw [hR] at hx
      have e : sameL (a :: l) (b :: m) = sameL l m := by simp [sameL, hb]
      rw [e]
      exact loop15 hty hpl hl he hf1 hf2 hd hc l m (i + 1) hx hd' hd2' hlt (by simp [T.get_set_ite, h2]) (by simp [T.get_set_ite, h3]) (by simp [T.get_set_ite]) hz hz1
noncomputable abbrev pd15 (d : Nat) := primVal (ofRel (Rel2 (fun a b => dep a ≤ d ∧ fit a ∧ fit b) sameF))
theorem pd15_ok : ∀ d, PrimOk Try.prog 18 (pd15 d) := prim_rec envA_ok (prim_none Try.func18 (by kernel_rfl) (by kernel_rfl) (prim_empty fun a b h => by have := dep_pos a; have := h.1; omega)) fun d hE => by
  refine prim2_ok hE (fn := Try.f18) (by kernel_rfl) body15 (by kernel_rfl) fun s t hq => ?_
  obtain ⟨hdp, hf1, hf2⟩ := hq
  obtain ⟨o1, n1, k1⟩ := s
  obtain ⟨o2, n2, k2⟩ := t
  simp only [dep] at hdp
  simp only [fit] at hf1 hf2
  have hcall : ∀ a b h, dep a ≤ d → fit a → fit b → evL (addPrim envA 18 (pd15 d)) 18 [a.av, b.av] h = some (.bool (sameF a b), h) := fun a b h h1 h2 h3 =>
    prim2_call (a := a) (b := b) (F := sameF) (q := fun a b => dep a ≤ d ∧ fit a ∧ fit b) (by kernel_rfl) (Enc.bare 0 a) (Enc.bare 0 b) ⟨h1, h2, h3⟩ h
  generalize hEe : addPrim envA 18 (pd15 d) = E at *
  have hty : E.ty = env.ty := by rw [← hEe]; rfl
  have hpl : E.plan = env.plan := by rw [← hEe]; rfl
  have hl1 := avs_len k1
  have hl2 := avs_len k2
  have e0 : sameF (.mk o1 n1 k1) (.mk o2 n2 k2) = (natsBeq o1 o2 && (intBeq n1 n2 && (intBeq ↑k1.length ↑k2.length && sameL k1 k2))) := by simp [sameF]
  rw [e0]
  unfold bodyL
  simp only [codeAt, sub, Try.f18]
  cases h1 : natsBeq o1 o2
  case false => simp [cdL_seq, cdL_region, cdL_drawn, cdL_cond, cdL_block, cdL_skip, cdL_label, cdL_exit, cdL_ret, endL, evSeq, evOne, evAct, evOp, opKind, evPure, evRead, evNew, evWrite, evSlice, natOf, optVal, readAt, AV.cells, wantedA, putTm, val, allVals, evBin, evInt, evStr, evAppend, denseFrom, sizesAre, onesIn, evPlan, recheck, AV.beq_refl, H.new, H.put, fillF, fillAt, allOne, AV.one, setArgs, evRes, resOf, ofVal, ofVal0, blt_dec, ble_dec, beq_dec, T.get_set_ite, T.get_e, isShift, ikBeq, ty_0, ty_1, ty_2, ty_3, ty_4, ty_5, ty_6, ty_7, ty_8, ty_9, ty_10, ty_11, ty_12, ty_13, ty_14, ty_15, ty_16, ty_17, ty_18, ty_19, ty_20, ty_21, ty_22, ty_23, ty_24, ty_25, ty_26, ty_27, ty_28, ty_29, ty_30, ty_31, ty_32, ty_33, ty_34, ty_35, ty_36, ty_37, ty_38, ty_39, ty_40, ty_41, ty_42, ty_43, ty_44, ty_45, ty_46, ty_47, ty_48, ty_49, ty_50, ty_51, ty_52, ty_53, ty_54, ty_55, ty_56, ty_57, ty_58, ty_59, ty_60, ty_61, ty_62, ty_63, ty_64, ty_65, ty_66, ty_67, ty_68, ty_69, ty_70, ty_71, ty_72, ty_73, ty_74, ty_75, ty_76, ty_77, ty_78, ty_79, ty_80, ty_81, ty_82, ty_83, ty_84, ty_85, ty_86, ty_87, ty_88, ty_89, ty_90, ty_91, ty_92, ty_93, ty_94, ty_95, ty_96, ty_97, ty_98, ty_99, pl_3_10, pl_4_3, pl_5_3, pl_10_9, pl_10_11, pl_10_13, pl_13_1, pl_13_7, pl_16_6, pl_18_6, pl_19_1, pl_27_6, pl_27_11, pl_33_17, pl_35_4, pl_35_6, pl_36_10, pl_37_10, pl_39_3, pl_40_5, pl_40_11, pl_40_16, pl_40_17, pl_40_22, pl_40_23, pl_42_1, pl_42_3, pl_42_5, pl_42_8, pl_43_1, pl_43_3, pl_43_5, pl_43_8, pl_43_10, pl_43_13, pl_43_15, pl_43_18, pl_43_21, pl_46_3, pl_46_5, pl_46_6, pl_48_1, pl_48_2, pl_48_3, pl_52_1, hty, hpl, Enc.enc, Ty.av, hl1, hl2, h1, AV.wk]
  cases h2 : intBeq n1 n2
  case false => simp [cdL_seq, cdL_region, cdL_drawn, cdL_cond, cdL_block, cdL_skip, cdL_label, cdL_exit, cdL_ret, endL, evSeq, evOne, evAct, evOp, opKind, evPure, evRead, evNew, evWrite, evSlice, natOf, optVal, readAt, AV.cells, wantedA, putTm, val, allVals, evBin, evInt, evStr, evAppend, denseFrom, sizesAre, onesIn, evPlan, recheck, AV.beq_refl, H.new, H.put, fillF, fillAt, allOne, AV.one, setArgs, evRes, resOf, ofVal, ofVal0, blt_dec, ble_dec, beq_dec, T.get_set_ite, T.get_e, isShift, ikBeq, ty_0, ty_1, ty_2, ty_3, ty_4, ty_5, ty_6, ty_7, ty_8, ty_9, ty_10, ty_11, ty_12, ty_13, ty_14, ty_15, ty_16, ty_17, ty_18, ty_19, ty_20, ty_21, ty_22, ty_23, ty_24, ty_25, ty_26, ty_27, ty_28, ty_29, ty_30, ty_31, ty_32, ty_33, ty_34, ty_35, ty_36, ty_37, ty_38, ty_39, ty_40, ty_41, ty_42, ty_43, ty_44, ty_45, ty_46, ty_47, ty_48, ty_49, ty_50, ty_51, ty_52, ty_53, ty_54, ty_55, ty_56, ty_57, ty_58, ty_59, ty_60, ty_61, ty_62, ty_63, ty_64, ty_65, ty_66, ty_67, ty_68, ty_69, ty_70, ty_71, ty_72, ty_73, ty_74, ty_75, ty_76, ty_77, ty_78, ty_79, ty_80, ty_81, ty_82, ty_83, ty_84, ty_85, ty_86, ty_87, ty_88, ty_89, ty_90, ty_91, ty_92, ty_93, ty_94, ty_95, ty_96, ty_97, ty_98, ty_99, pl_3_10, pl_4_3, pl_5_3, pl_10_9, pl_10_11, pl_10_13, pl_13_1, pl_13_7, pl_16_6, pl_18_6, pl_19_1, pl_27_6, pl_27_11, pl_33_17, pl_35_4, pl_35_6, pl_36_10, pl_37_10, pl_39_3, pl_40_5, pl_40_11, pl_40_16, pl_40_17, pl_40_22, pl_40_23, pl_42_1, pl_42_3, pl_42_5, pl_42_8, pl_43_1, pl_43_3, pl_43_5, pl_43_8, pl_43_10, pl_43_13, pl_43_15, pl_43_18, pl_43_21, pl_46_3, pl_46_5, pl_46_6, pl_48_1, pl_48_2, pl_48_3, pl_52_1, hty, hpl, Enc.enc, Ty.av, hl1, hl2, h1, h2, AV.wk]
  cases h3 : intBeq ↑k1.length ↑k2.length
  case false => simp [cdL_seq, cdL_region, cdL_drawn, cdL_cond, cdL_block, cdL_skip, cdL_label, cdL_exit, cdL_ret, endL, evSeq, evOne, evAct, evOp, opKind, evPure, evRead, evNew, evWrite, evSlice, natOf, optVal, readAt, AV.cells, wantedA, putTm, val, allVals, evBin, evInt, evStr, evAppend, denseFrom, sizesAre, onesIn, evPlan, recheck, AV.beq_refl, H.new, H.put, fillF, fillAt, allOne, AV.one, setArgs, evRes, resOf, ofVal, ofVal0, blt_dec, ble_dec, beq_dec, T.get_set_ite, T.get_e, isShift, ikBeq, ty_0, ty_1, ty_2, ty_3, ty_4, ty_5, ty_6, ty_7, ty_8, ty_9, ty_10, ty_11, ty_12, ty_13, ty_14, ty_15, ty_16, ty_17, ty_18, ty_19, ty_20, ty_21, ty_22, ty_23, ty_24, ty_25, ty_26, ty_27, ty_28, ty_29, ty_30, ty_31, ty_32, ty_33, ty_34, ty_35, ty_36, ty_37, ty_38, ty_39, ty_40, ty_41, ty_42, ty_43, ty_44, ty_45, ty_46, ty_47, ty_48, ty_49, ty_50, ty_51, ty_52, ty_53, ty_54, ty_55, ty_56, ty_57, ty_58, ty_59, ty_60, ty_61, ty_62, ty_63, ty_64, ty_65, ty_66, ty_67, ty_68, ty_69, ty_70, ty_71, ty_72, ty_73, ty_74, ty_75, ty_76, ty_77, ty_78, ty_79, ty_80, ty_81, ty_82, ty_83, ty_84, ty_85, ty_86, ty_87, ty_88, ty_89, ty_90, ty_91, ty_92, ty_93, ty_94, ty_95, ty_96, ty_97, ty_98, ty_99, pl_3_10, pl_4_3, pl_5_3, pl_10_9, pl_10_11, pl_10_13, pl_13_1, pl_13_7, pl_16_6, pl_18_6, pl_19_1, pl_27_6, pl_27_11, pl_33_17, pl_35_4, pl_35_6, pl_36_10, pl_37_10, pl_39_3, pl_40_5, pl_40_11, pl_40_16, pl_40_17, pl_40_22, pl_40_23, pl_42_1, pl_42_3, pl_42_5, pl_42_8, pl_43_1, pl_43_3, pl_43_5, pl_43_8, pl_43_10, pl_43_13, pl_43_15, pl_43_18, pl_43_21, pl_46_3, pl_46_5, pl_46_6, pl_48_1, pl_48_2, pl_48_3, pl_52_1, hty, hpl, Enc.enc, Ty.av, hl1, hl2, h1, h2, h3, AV.wk]
  have hle : k1.length = k2.length := by have := intBeq_iff.1 h3; omega
  simp [cdL_seq, cdL_region, cdL_drawn, cdL_cond, cdL_block, cdL_skip, cdL_label, cdL_exit, cdL_ret, endL, evSeq, evOne, evAct, evOp, opKind, evPure, evRead, evNew, evWrite, evSlice, natOf, optVal, readAt, AV.cells, wantedA, putTm, val, allVals, evBin, evInt, evStr, evAppend, denseFrom, sizesAre, onesIn, evPlan, recheck, AV.beq_refl, H.new, H.put, fillF, fillAt, allOne, AV.one, setArgs, evRes, resOf, ofVal, ofVal0, blt_dec, ble_dec, beq_dec, T.get_set_ite, T.get_e, isShift, ikBeq, ty_0, ty_1, ty_2, ty_3, ty_4, ty_5, ty_6, ty_7, ty_8, ty_9, ty_10, ty_11, ty_12, ty_13, ty_14, ty_15, ty_16, ty_17, ty_18, ty_19, ty_20, ty_21, ty_22, ty_23, ty_24, ty_25, ty_26, ty_27, ty_28, ty_29, ty_30, ty_31, ty_32, ty_33, ty_34, ty_35, ty_36, ty_37, ty_38, ty_39, ty_40, ty_41, ty_42, ty_43, ty_44, ty_45, ty_46, ty_47, ty_48, ty_49, ty_50, ty_51, ty_52, ty_53, ty_54, ty_55, ty_56, ty_57, ty_58, ty_59, ty_60, ty_61, ty_62, ty_63, ty_64, ty_65, ty_66, ty_67, ty_68, ty_69, ty_70, ty_71, ty_72, ty_73, ty_74, ty_75, ty_76, ty_77, ty_78, ty_79, ty_80, ty_81, ty_82, ty_83, ty_84, ty_85, ty_86, ty_87, ty_88, ty_89, ty_90, ty_91, ty_92, ty_93, ty_94, ty_95, ty_96, ty_97, ty_98, ty_99, pl_3_10, pl_4_3, pl_5_3, pl_10_9, pl_10_11, pl_10_13, pl_13_1, pl_13_7, pl_16_6, pl_18_6, pl_19_1, pl_27_6, pl_27_11, pl_33_17, pl_35_4, pl_35_6, pl_36_10, pl_37_10, pl_39_3, pl_40_5, pl_40_11, pl_40_16, pl_40_17, pl_40_22, pl_40_23, pl_42_1, pl_42_3, pl_42_5, pl_42_8, pl_43_1, pl_43_3, pl_43_5, pl_43_8, pl_43_10, pl_43_13, pl_43_15, pl_43_18, pl_43_21, pl_46_3, pl_46_5, pl_46_6, pl_48_1, pl_48_2, pl_48_3, pl_52_1, hty, hpl, Enc.enc, Ty.av, hl1, hl2, h1, h2, h3]
  generalize hx : cdL E 18 46 (.loop b15_0) _ _ = x
  obtain ⟨tm', rfl, g⟩ := loop15 hty hpl (o1 := o1) (o2 := o2) (n1 := n1) (n2 := n2) (k1 := k1) (k2 := k2) (d := d) hf1.1 hle hf1.2.2 hf2.2.2 (by omega) hcall k1 k2 0 hx rfl rfl (Nat.zero_le _) (by simp [T.get_set_ite]) (by simp [T.get_set_ite]) (by simp [T.get_set_ite]) (by simp [T.get_set_ite]) (by simp [T.get_set_ite])
  cases hb : sameL k1 k2 with
  | true => simp [cdL_seq, cdL_region, cdL_drawn, cdL_cond, cdL_block, cdL_skip, cdL_label, cdL_exit, cdL_ret, endL, evSeq, evOne, evAct, evOp, opKind, evPure, evRead, evNew, evWrite, evSlice, natOf, optVal, readAt, AV.cells, wantedA, putTm, val, allVals, evBin, evInt, evStr, evAppend, denseFrom, sizesAre, onesIn, evPlan, recheck, AV.beq_refl, H.new, H.put, fillF, fillAt, allOne, AV.one, setArgs, evRes, resOf, ofVal, ofVal0, blt_dec, ble_dec, beq_dec, T.get_set_ite, T.get_e, isShift, ikBeq, ty_0, ty_1, ty_2, ty_3, ty_4, ty_5, ty_6, ty_7, ty_8, ty_9, ty_10, ty_11, ty_12, ty_13, ty_14, ty_15, ty_16, ty_17, ty_18, ty_19, ty_20, ty_21, ty_22, ty_23, ty_24, ty_25, ty_26, ty_27, ty_28, ty_29, ty_30, ty_31, ty_32, ty_33, ty_34, ty_35, ty_36, ty_37, ty_38, ty_39, ty_40, ty_41, ty_42, ty_43, ty_44, ty_45, ty_46, ty_47, ty_48, ty_49, ty_50, ty_51, ty_52, ty_53, ty_54, ty_55, ty_56, ty_57, ty_58, ty_59, ty_60, ty_61, ty_62, ty_63, ty_64, ty_65, ty_66, ty_67, ty_68, ty_69, ty_70, ty_71, ty_72, ty_73, ty_74, ty_75, ty_76, ty_77, ty_78, ty_79, ty_80, ty_81, ty_82, ty_83, ty_84, ty_85, ty_86, ty_87, ty_88, ty_89, ty_90, ty_91, ty_92, ty_93, ty_94, ty_95, ty_96, ty_97, ty_98, ty_99, pl_3_10, pl_4_3, pl_5_3, pl_10_9, pl_10_11, pl_10_13, pl_13_1, pl_13_7, pl_16_6, pl_18_6, pl_19_1, pl_27_6, pl_27_11, pl_33_17, pl_35_4, pl_35_6, pl_36_10, pl_37_10, pl_39_3, pl_40_5, pl_40_11, pl_40_16, pl_40_17, pl_40_22, pl_40_23, pl_42_1, pl_42_3, pl_42_5, pl_42_8, pl_43_1, pl_43_3, pl_43_5, pl_43_8, pl_43_10, pl_43_13, pl_43_15, pl_43_18, pl_43_21, pl_46_3, pl_46_5, pl_46_6, pl_48_1, pl_48_2, pl_48_3, pl_52_1, hty, hpl, AV.wk]
  | false => simp [cdL_seq, cdL_region, cdL_drawn, cdL_cond, cdL_block, cdL_skip, cdL_label, cdL_exit, cdL_ret, endL, evSeq, evOne, evAct, evOp, opKind, evPure, evRead, evNew, evWrite, evSlice, natOf, optVal, readAt, AV.cells, wantedA, putTm, val, allVals, evBin, evInt, evStr, evAppend, denseFrom, sizesAre, onesIn, evPlan, recheck, AV.beq_refl, H.new, H.put, fillF, fillAt, allOne, AV.one, setArgs, evRes, resOf, ofVal, ofVal0, blt_dec, ble_dec, beq_dec, T.get_set_ite, T.get_e, isShift, ikBeq, ty_0, ty_1, ty_2, ty_3, ty_4, ty_5, ty_6, ty_7, ty_8, ty_9, ty_10, ty_11, ty_12, ty_13, ty_14, ty_15, ty_16, ty_17, ty_18, ty_19, ty_20, ty_21, ty_22, ty_23, ty_24, ty_25, ty_26, ty_27, ty_28, ty_29, ty_30, ty_31, ty_32, ty_33, ty_34, ty_35, ty_36, ty_37, ty_38, ty_39, ty_40, ty_41, ty_42, ty_43, ty_44, ty_45, ty_46, ty_47, ty_48, ty_49, ty_50, ty_51, ty_52, ty_53, ty_54, ty_55, ty_56, ty_57, ty_58, ty_59, ty_60, ty_61, ty_62, ty_63, ty_64, ty_65, ty_66, ty_67, ty_68, ty_69, ty_70, ty_71, ty_72, ty_73, ty_74, ty_75, ty_76, ty_77, ty_78, ty_79, ty_80, ty_81, ty_82, ty_83, ty_84, ty_85, ty_86, ty_87, ty_88, ty_89, ty_90, ty_91, ty_92, ty_93, ty_94, ty_95, ty_96, ty_97, ty_98, ty_99, pl_3_10, pl_4_3, pl_5_3, pl_10_9, pl_10_11, pl_10_13, pl_13_1, pl_13_7, pl_16_6, pl_18_6, pl_19_1, pl_27_6, pl_27_11, pl_33_17, pl_35_4, pl_35_6, pl_36_10, pl_37_10, pl_39_3, pl_40_5, pl_40_11, pl_40_16, pl_40_17, pl_40_22, pl_40_23, pl_42_1, pl_42_3, pl_42_5, pl_42_8, pl_43_1, pl_43_3, pl_43_5, pl_43_8, pl_43_10, pl_43_13, pl_43_15, pl_43_18, pl_43_21, pl_46_3, pl_46_5, pl_46_6, pl_48_1, pl_48_2, pl_48_3, pl_52_1, hty, hpl, g hb, AV.wk]
noncomputable abbrev p15 := primVal (ofRel (Rel2 (fun a b => fit a ∧ fit b) sameF))
theorem p15_ok : PrimOk Try.prog 18 p15 := prim_union pd15_ok (union2 fun a b h => ⟨dep a, Nat.le_refl _, h⟩)
end Go.Proofs.Ytcmbpfobdgijjaa.Env
/- The vars of a type. -/
set_option autoImplicit false
set_option maxRecDepth 100000
set_option linter.unusedSimpArgs false
set_option linter.unusedVariables false
set_option linter.unusedSectionVars false
namespace Go.Proofs.Ytcmbpfobdgijjaa.Env
open Go.Ev

mutual
def size : Ty → Nat
  | .mk _ _ ks => sizes ks + 1
def sizes : List Ty → Nat
  | [] => 0
  | t :: l => size t + sizes l
end
theorem size_mem : ∀ {l : List Ty} {t : Ty}, t ∈ l → size t ≤ sizes l
  | a :: l, t, h => by
    rcases List.mem_cons.1 h with rfl | h
    · exact Nat.le_add_right ..
    · exact Nat.le_trans (size_mem h) (Nat.le_add_left ..)
mutual
theorem szF_size : ∀ (t : Ty) (m : Int), szF t m < m → szF t m = ↑(size t)
  | .mk _ _ ks, m, h => by
    simp only [szF, size] at *
    have := szL_size ks m 1 (Int.le_refl _) h
    rw [this]; push_cast; omega
theorem szL_size : ∀ (l : List Ty) (m k : Int), 1 ≤ k → szL l m k < m → szL l m k = k + ↑(sizes l)
  | [], m, k, _, _ => by simp [szL, sizes]
  | t :: l, m, k, hk, h => by
    simp only [szL, sizes] at *
    cases hb : ltI k m with
    | false =>
      rw [hb] at h
      simp only [cond_false] at h
      have : ¬ k < m := by rw [ltI_eq] at hb; simpa using hb
      exact absurd h this
    | true =>
      have hlt : k < m := by rw [ltI_eq] at hb; simpa using hb
      rw [hb] at h
      simp only [cond_true] at h ⊢
      have h1 := szF_le t (m - k)
      have h2 := szL_le l m (k + szF t (m - k)) (by omega)
      have h3 := szF_size t (m - k) (by omega)
      rw [szL_size l m _ (by omega) h, h3]
      push_cast; omega
end
/-- A row that may be appended to. -/
def RowE (et sz : Nat) (h : H) (o : Own) (els : List AV) : Prop := (o = .full ∧ els = []) ∨ ∃ id, o = .ch id ∧ h.t.get id = some (.chain els.length et sz) ∧ id < h.nx

/-! ### vars -/
mutual
def varsF : Ty → List Int → List Int
  | .mk o n ks, out => varsL ks (bif natsBeq o varS && !hasI out n then out ++ [n] else out)
def varsL : List Ty → List Int → List Int
  | [], out => out
  | t :: l, out => varsL l (varsF t out)
end
mutual
theorem varsF_len : ∀ (t : Ty) (out : List Int), (varsF t out).length ≤ out.length + size t
  | .mk o n ks, out => by
    simp only [varsF, size]
    have := varsL_len ks (bif natsBeq o varS && !hasI out n then out ++ [n] else out)
    cases hb : (natsBeq o varS && !hasI out n) <;> rw [hb] at this <;> simp at this ⊢ <;> omega
theorem varsL_len : ∀ (l : List Ty) (out : List Int), (varsL l out).length ≤ out.length + sizes l
  | [], out => by simp [varsL, sizes]
  | t :: l, out => by
    simp only [varsL, sizes]
    have h1 := varsF_len t out
    have h2 := varsL_len l (varsF t out)
    omega
end
noncomputable def b31_0 : Code := loopOf Try.f31 0
theorem body31 : Try.f31.body = some (.seq (codeAt Try.f31 [0]) (.seq (codeAt Try.f31 [1, 0]) (.seq (.seq (codeAt Try.f31 [1, 1, 0, 0]) (.block 0 (.loop b31_0))) (codeAt Try.f31 [1, 1, 1])))) := rfl
def ints (L : List Int) : List AV := L.map (.int .i64)
theorem ints_len (L : List Int) : (ints L).length = L.length := List.length_map ..
theorem ints_sizes : ∀ L : List Int, sizesAre 1 (ints L) = true
  | [] => rfl
  | n :: L => by
    have := ints_sizes L
    unfold ints at this ⊢
    simp [sizesAre, AV.cells, beq_dec, this]
/-- The owner is what it was, or new. -/
def NewO (h : H) (o o' : Own) : Prop := o' = o ∨ ∃ id, o' = .ch id ∧ h.nx ≤ id
def Vars31 (E : Env) (d : Nat) : Prop := ∀ (t : Ty) (o : Own) (L : List Int) (h : H), dep t ≤ d → fit t → RowE 3 1 h o (ints L) → L.length + size t ≤ 1000000 →
  ∃ o' h', evL E 31 [t.av, .sl o (ints L)] h = some (.sl o' (ints (varsF t L)), h') ∧ RowE 3 1 h' o' (ints (varsF t L)) ∧ NewO h o o' ∧ h.nx ≤ h'.nx ∧ ∀ j, j < h.nx → o ≠ .ch j → h'.t.get j = h.t.get j
theorem loop31 {E : Env} (hty : E.ty = env.ty) (hpl : E.plan = env.plan) {a : List Nat} {n : Int} {ks : List Ty} {d : Nat} (hl : ks.length ≤ 9223372036854775807) (hf : fits ks) (hd : deps ks ≤ d) (hc : Vars31 E d) {b : Nat} :
    ∀ (l : List Ty) (i : Nat) (o : Own) (L : List Int) {tm : Tm} {h : H} {x : Option (Ex × Tm × H)}, cdL E 31 36 (.loop b31_0) tm h = x → l = ks.drop i → i ≤ ks.length → RowE 3 1 h o (ints L) → L.length + sizes l ≤ 1000000 →
    tm.get 1 = some (.sl o (ints L)) → tm.get 2 = some (.ptr (some (b, 0))) → tm.get 5 = some (.int .i64 ↑i) → h.t.get b = some (.cells [.str a, .int .i64 n, .sl .no (Ty.avs ks)]) → b < h.nx →
    ∃ tm' h' o', x = some (.exit 0, tm', h') ∧ tm'.get 1 = some (.sl o' (ints (varsL l L))) ∧ RowE 3 1 h' o' (ints (varsL l L)) ∧ NewO h o o' ∧ h.nx ≤ h'.nx ∧ ∀ j, j < h.nx → o ≠ .ch j → h'.t.get j = h.t.get j
  | [], i, o, L, tm, h, x, hx, hd, hi, hr, hlen, h1, h2, h5, hz, hbn => by
    have hlen := dnil hd hi
    have hl2 : (Ty.avs ks).length = i := by rw [avs_len]; exact hlen
    obtain ⟨R, hR, hx⟩ := loop_step hx
    simp [b31_0, loopOf, Try.f31, loops, cdL_seq, cdL_region, cdL_drawn, cdL_cond, cdL_block, cdL_skip, cdL_label, cdL_exit, cdL_ret, endL, evSeq, evOne, evAct, evOp, opKind, evPure, evRead, evNew, evWrite, evSlice, natOf, optVal, readAt, AV.cells, wantedA, putTm, val, allVals, evBin, evInt, evStr, evAppend, denseFrom, sizesAre, onesIn, evPlan, recheck, AV.beq_refl, H.new, H.put, fillF, fillAt, allOne, AV.one, setArgs, evRes, resOf, ofVal, ofVal0, blt_dec, ble_dec, beq_dec, T.get_set_ite, T.get_e, isShift, ikBeq, ty_0, ty_1, ty_2, ty_3, ty_4, ty_5, ty_6, ty_7, ty_8, ty_9, ty_10, ty_11, ty_12, ty_13, ty_14, ty_15, ty_16, ty_17, ty_18, ty_19, ty_20, ty_21, ty_22, ty_23, ty_24, ty_25, ty_26, ty_27, ty_28, ty_29, ty_30, ty_31, ty_32, ty_33, ty_34, ty_35, ty_36, ty_37, ty_38, ty_39, ty_40, ty_41, ty_42, ty_43, ty_44, ty_45, ty_46, ty_47, ty_48, ty_49, ty_50, ty_51, ty_52, ty_53, ty_54, ty_55, ty_56, ty_57, ty_58, ty_59, ty_60, ty_61, ty_62, ty_63, ty_64, ty_65, ty_66, ty_67, ty_68, ty_69, ty_70, ty_71, ty_72, ty_73, ty_74, ty_75, ty_76, ty_77, ty_78, ty_79, ty_80, ty_81, ty_82, ty_83, ty_84, ty_85, ty_86, ty_87, ty_88, ty_89, ty_90, ty_91, ty_92, ty_93, ty_94, ty_95, ty_96, ty_97, ty_98, ty_99, pl_3_10, pl_4_3, pl_5_3, pl_10_9, pl_10_11, pl_10_13, pl_13_1, pl_13_7, pl_16_6, pl_18_6, pl_19_1, pl_27_6, pl_27_11, pl_33_17, pl_35_4, pl_35_6, pl_36_10, pl_37_10, pl_39_3, pl_40_5, pl_40_11, pl_40_16, pl_40_17, pl_40_22, pl_40_23, pl_42_1, pl_42_3, pl_42_5, pl_42_8, pl_43_1, pl_43_3, pl_43_5, pl_43_8, pl_43_10, pl_43_13, pl_43_15, pl_43_18, pl_43_21, pl_46_3, pl_46_5, pl_46_6, pl_48_1, pl_48_2, pl_48_3, pl_52_1, lp, hty, hpl, h1, h2, h5, hz, hl2, ltI_f] at hx
    exact ⟨_, h, o, by rw [← hx], by simp [T.get_set_ite, h1, varsL], hr, .inl rfl, Nat.le_refl _, fun _ _ _ => rfl⟩
  | t :: l, i, o, L, tm, h, x, hx, hdr, hi, hr, hlen, h1, h2, h5, hz, hbn => by
    obtain ⟨hlt, hct, hd'⟩ := dcons hdr
    have hl2 := avs_len ks
    have hat := avs_get hct
    have htm := List.mem_of_getElem? hct
    obtain ⟨R, hR, hx⟩ := loop_step hx
    have hlt' := ltI_t hlt
    have hw := wr_succ (i := i) (by omega)
    simp only [sizes] at hlen
    obtain ⟨o1, h1', e1, r1, w1, n1, f1⟩ := hc t o L h (Nat.le_trans (dep_mem htm) hd) (fits_mem.1 hf t htm) hr (by omega)
    have hbo : o ≠ .ch b := by
      rintro rfl
      rcases hr with ⟨e, _⟩ | ⟨id, e, hg, _⟩
      · cases e
      · cases e; rw [hz] at hg; cases hg
    have hz' : h1'.t.get b = some (.cells [.str a, .int .i64 n, .sl .no (Ty.avs ks)]) := by rw [f1 b hbn hbo]; exact hz
    obtain ⟨a0, a1, a2, ha⟩ := av_agg t
    rw [ha] at hat e1
    simp [b31_0, loopOf, Try.f31, loops, cdL_seq, cdL_region, cdL_drawn, cdL_cond, cdL_block, cdL_skip, cdL_label, cdL_exit, cdL_ret, endL, evSeq, evOne, evAct, evOp, opKind, evPure, evRead, evNew, evWrite, evSlice, natOf, optVal, readAt, AV.cells, wantedA, putTm, val, allVals, evBin, evInt, evStr, evAppend, denseFrom, sizesAre, onesIn, evPlan, recheck, AV.beq_refl, H.new, H.put, fillF, fillAt, allOne, AV.one, setArgs, evRes, resOf, ofVal, ofVal0, blt_dec, ble_dec, beq_dec, T.get_set_ite, T.get_e, isShift, ikBeq, ty_0, ty_1, ty_2, ty_3, ty_4, ty_5, ty_6, ty_7, ty_8, ty_9, ty_10, ty_11, ty_12, ty_13, ty_14, ty_15, ty_16, ty_17, ty_18, ty_19, ty_20, ty_21, ty_22, ty_23, ty_24, ty_25, ty_26, ty_27, ty_28, ty_29, ty_30, ty_31, ty_32, ty_33, ty_34, ty_35, ty_36, ty_37, ty_38, ty_39, ty_40, ty_41, ty_42, ty_43, ty_44, ty_45, ty_46, ty_47, ty_48, ty_49, ty_50, ty_51, ty_52, ty_53, ty_54, ty_55, ty_56, ty_57, ty_58, ty_59, ty_60, ty_61, ty_62, ty_63, ty_64, ty_65, ty_66, ty_67, ty_68, ty_69, ty_70, ty_71, ty_72, ty_73, ty_74, ty_75, ty_76, ty_77, ty_78, ty_79, ty_80, ty_81, ty_82, ty_83, ty_84, ty_85, ty_86, ty_87, ty_88, ty_89, ty_90, ty_91, ty_92, ty_93, ty_94, ty_95, ty_96, ty_97, ty_98, ty_99, pl_3_10, pl_4_3, pl_5_3, pl_10_9, pl_10_11, pl_10_13, pl_13_1, pl_13_7, pl_16_6, pl_18_6, pl_19_1, pl_27_6, pl_27_11, pl_33_17, pl_35_4, pl_35_6, pl_36_10, pl_37_10, pl_39_3, pl_40_5, pl_40_11, pl_40_16, pl_40_17, pl_40_22, pl_40_23, pl_42_1, pl_42_3, pl_42_5, pl_42_8, pl_43_1, pl_43_3, pl_43_5, pl_43_8, pl_43_10, pl_43_13, pl_43_15, pl_43_18, pl_43_21, pl_46_3, pl_46_5, pl_46_6, pl_48_1, pl_48_2, pl_48_3, pl_52_1, lp, hty, hpl, h1, h2, h5, hz, hl2, hlt', hat, hw, e1] at hx
    rw [hR] at hx
    have hvl := varsF_len t L
    obtain ⟨tm', h2', o2, g0, g1, g2, gw, g3, g4⟩ := loop31 hty hpl hl hf hd hc l (i + 1) o1 (varsF t L) hx hd' hlt r1 (by omega) (by simp [T.get_set_ite]) (by simp [T.get_set_ite, h2]) (by simp [T.get_set_ite]) hz' (by omega)
    refine ⟨tm', h2', o2, g0, g1, g2, ?_, by omega, fun j hj ho => ?_⟩
    · rcases gw with rfl | ⟨id, rfl, hid⟩
      · exact w1
      · exact .inr ⟨id, rfl, by omega⟩
    · rw [g4 j (by omega) ?_, f1 j hj ho]
      rintro rfl
      rcases w1 with e | ⟨id, e, hid⟩
      · exact ho e.symm
      · cases e; omega
theorem vars_run {E : Env} (hty : E.ty = env.ty) (hpl : E.plan = env.plan) (hp : E.prim 31 = none) (hfn : E.fns 31 = some Try.f31) (h22 : E.prim 11 = some p22) : ∀ d, Vars31 E d
  | 0 => fun t o L h hd => by have := dep_pos t; omega
  | d + 1 => fun t o L h hd hf hr hlen => by
    have hc := vars_run hty hpl hp hfn h22 d
    obtain ⟨a, n, ks⟩ := t
    simp only [dep] at hd
    simp only [fit] at hf
    simp only [size] at hlen
    have hhas : ∀ h, evL E 11 [.sl o (ints L), .int .i64 n] h = some (.bool (hasI L n), h) := fun h => c22 h22 o L n (by omega) h
    have hil := ints_len L
    have his := ints_sizes L
    have hby : (L.length + 1) * 8 ≤ 140737488355328 := by omega
    have hv : natsBeq a varS = natsBeq a [118, 97, 114] := rfl
    have eF : varsF (.mk a n ks) L = varsL ks (bif natsBeq a [118, 97, 114] && !hasI L n then L ++ [n] else L) := by rw [varsF, hv]
    rw [evL_fn E hp hfn body31 _ _ rfl, eF]
    -- the rest, from the loop on
    have rest : ∀ (o1 : Own) (L1 : List Int) (tm1 : Tm) (h1 : H) (x : Option (Ex × Tm × H)), cdL E 31 36 (.loop b31_0) tm1 h1 = x → RowE 3 1 h1 o1 (ints L1) → L1.length + sizes ks ≤ 1000000 → tm1.get 1 = some (.sl o1 (ints L1)) → tm1.get 2 = some (.ptr (some (h.nx, 0))) → tm1.get 5 = some (.int .i64 0) →
        h1.t.get h.nx = some (.cells [.str a, .int .i64 n, .sl .no (Ty.avs ks)]) → h.nx < h1.nx → NewO h o o1 → (∀ j, j < h.nx → o ≠ .ch j → h1.t.get j = h.t.get j) →
        ∃ tm' h' o', x = some (.exit 0, tm', h') ∧ tm'.get 1 = some (.sl o' (ints (varsL ks L1))) ∧ RowE 3 1 h' o' (ints (varsL ks L1)) ∧ NewO h o o' ∧ h.nx ≤ h'.nx ∧ ∀ j, j < h.nx → o ≠ .ch j → h'.t.get j = h.t.get j := by
      intro o1 L1 tm1 h1 x hx r1 l1 g1 g2 g5 gz gn gw gf
      obtain ⟨tm', h', o', e1, e2, e3, e4, e5, e6⟩ := loop31 hty hpl (a := a) (n := n) (ks := ks) (d := d) hf.1 hf.2.2 (by omega) hc (b := h.nx) ks 0 o1 L1 hx rfl (Nat.zero_le _) r1 l1 g1 g2 (by simpa using g5) gz gn
      refine ⟨tm', h', o', e1, e2, e3, ?_, by omega, fun j hj ho => ?_⟩
      · rcases e4 with rfl | ⟨id, rfl, hid⟩
        · exact gw
        · exact .inr ⟨id, rfl, by omega⟩
      · rw [e6 j (by omega) ?_, gf j hj ho]
        rintro rfl
        rcases gw with e | ⟨id, e, hid⟩
        · exact ho e.symm
        · cases e; omega
    simp only [codeAt, sub, Try.f31]
    cases h1 : natsBeq a [118, 97, 114] with
    | false =>
      simp [cdL_seq, cdL_region, cdL_drawn, cdL_cond, cdL_block, cdL_skip, cdL_label, cdL_exit, cdL_ret, endL, evSeq, evOne, evAct, evOp, opKind, evPure, evRead, evNew, evWrite, evSlice, natOf, optVal, readAt, AV.cells, wantedA, putTm, val, allVals, evBin, evInt, evStr, evAppend, denseFrom, sizesAre, onesIn, evPlan, recheck, AV.beq_refl, H.new, H.put, fillF, fillAt, allOne, AV.one, setArgs, evRes, resOf, ofVal, ofVal0, blt_dec, ble_dec, beq_dec, T.get_set_ite, T.get_e, isShift, ikBeq, ty_0, ty_1, ty_2, ty_3, ty_4, ty_5, ty_6, ty_7, ty_8, ty_9, ty_10, ty_11, ty_12, ty_13, ty_14, ty_15, ty_16, ty_17, ty_18, ty_19, ty_20, ty_21, ty_22, ty_23, ty_24, ty_25, ty_26, ty_27, ty_28, ty_29, ty_30, ty_31, ty_32, ty_33, ty_34, ty_35, ty_36, ty_37, ty_38, ty_39, ty_40, ty_41, ty_42, ty_43, ty_44, ty_45, ty_46, ty_47, ty_48, ty_49, ty_50, ty_51, ty_52, ty_53, ty_54, ty_55, ty_56, ty_57, ty_58, ty_59, ty_60, ty_61, ty_62, ty_63, ty_64, ty_65, ty_66, ty_67, ty_68, ty_69, ty_70, ty_71, ty_72, ty_73, ty_74, ty_75, ty_76, ty_77, ty_78, ty_79, ty_80, ty_81, ty_82, ty_83, ty_84, ty_85, ty_86, ty_87, ty_88, ty_89, ty_90, ty_91, ty_92, ty_93, ty_94, ty_95, ty_96, ty_97, ty_98, ty_99, pl_3_10, pl_4_3, pl_5_3, pl_10_9, pl_10_11, pl_10_13, pl_13_1, pl_13_7, pl_16_6, pl_18_6, pl_19_1, pl_27_6, pl_27_11, pl_33_17, pl_35_4, pl_35_6, pl_36_10, pl_37_10, pl_39_3, pl_40_5, pl_40_11, pl_40_16, pl_40_17, pl_40_22, pl_40_23, pl_42_1, pl_42_3, pl_42_5, pl_42_8, pl_43_1, pl_43_3, pl_43_5, pl_43_8, pl_43_10, pl_43_13, pl_43_15, pl_43_18, pl_43_21, pl_46_3, pl_46_5, pl_46_6, pl_48_1, pl_48_2, pl_48_3, pl_52_1, hty, hpl, Ty.av, hhas, h1, bytesOf]
      generalize hx : cdL E 31 36 (.loop b31_0) _ _ = x
      obtain ⟨tm', h', o', rfl, q1, q2, q3, q4, q5⟩ := rest o L _ _ x hx (by
        rcases hr with e | ⟨id, e, hg, hi⟩
        · exact .inl e
        · exact .inr ⟨id, e, by simp [T.get_set_ite]; rw [if_neg (by omega)]; exact hg, by simp; omega⟩) (by omega) (by simp [T.get_set_ite]) (by simp [T.get_set_ite]) (by simp [T.get_set_ite]) (by simp [T.get_set_ite]) (by simp) (.inl rfl) (fun j hj ho => by simp [T.get_set_ite]; omega)
      simp [cdL_seq, cdL_region, cdL_drawn, cdL_cond, cdL_block, cdL_skip, cdL_label, cdL_exit, cdL_ret, endL, evSeq, evOne, evAct, evOp, opKind, evPure, evRead, evNew, evWrite, evSlice, natOf, optVal, readAt, AV.cells, wantedA, putTm, val, allVals, evBin, evInt, evStr, evAppend, denseFrom, sizesAre, onesIn, evPlan, recheck, AV.beq_refl, H.new, H.put, fillF, fillAt, allOne, AV.one, setArgs, evRes, resOf, ofVal, ofVal0, blt_dec, ble_dec, beq_dec, T.get_set_ite, T.get_e, isShift, ikBeq, ty_0, ty_1, ty_2, ty_3, ty_4, ty_5, ty_6, ty_7, ty_8, ty_9, ty_10, ty_11, ty_12, ty_13, ty_14, ty_15, ty_16, ty_17, ty_18, ty_19, ty_20, ty_21, ty_22, ty_23, ty_24, ty_25, ty_26, ty_27, ty_28, ty_29, ty_30, ty_31, ty_32, ty_33, ty_34, ty_35, ty_36, ty_37, ty_38, ty_39, ty_40, ty_41, ty_42, ty_43, ty_44, ty_45, ty_46, ty_47, ty_48, ty_49, ty_50, ty_51, ty_52, ty_53, ty_54, ty_55, ty_56, ty_57, ty_58, ty_59, ty_60, ty_61, ty_62, ty_63, ty_64, ty_65, ty_66, ty_67, ty_68, ty_69, ty_70, ty_71, ty_72, ty_73, ty_74, ty_75, ty_76, ty_77, ty_78, ty_79, ty_80, ty_81, ty_82, ty_83, ty_84, ty_85, ty_86, ty_87, ty_88, ty_89, ty_90, ty_91, ty_92, ty_93, ty_94, ty_95, ty_96, ty_97, ty_98, ty_99, pl_3_10, pl_4_3, pl_5_3, pl_10_9, pl_10_11, pl_10_13, pl_13_1, pl_13_7, pl_16_6, pl_18_6, pl_19_1, pl_27_6, pl_27_11, pl_33_17, pl_35_4, pl_35_6, pl_36_10, pl_37_10, pl_39_3, pl_40_5, pl_40_11, pl_40_16, pl_40_17, pl_40_22, pl_40_23, pl_42_1, pl_42_3, pl_42_5, pl_42_8, pl_43_1, pl_43_3, pl_43_5, pl_43_8, pl_43_10, pl_43_13, pl_43_15, pl_43_18, pl_43_21, pl_46_3, pl_46_5, pl_46_6, pl_48_1, pl_48_2, pl_48_3, pl_52_1, hty, hpl, q1]
      exact ⟨o', h', ⟨rfl, rfl⟩, q2, q3, q4, q5⟩
    | true =>
      cases h2 : hasI L n with
      | true =>
        simp [cdL_seq, cdL_region, cdL_drawn, cdL_cond, cdL_block, cdL_skip, cdL_label, cdL_exit, cdL_ret, endL, evSeq, evOne, evAct, evOp, opKind, evPure, evRead, evNew, evWrite, evSlice, natOf, optVal, readAt, AV.cells, wantedA, putTm, val, allVals, evBin, evInt, evStr, evAppend, denseFrom, sizesAre, onesIn, evPlan, recheck, AV.beq_refl, H.new, H.put, fillF, fillAt, allOne, AV.one, setArgs, evRes, resOf, ofVal, ofVal0, blt_dec, ble_dec, beq_dec, T.get_set_ite, T.get_e, isShift, ikBeq, ty_0, ty_1, ty_2, ty_3, ty_4, ty_5, ty_6, ty_7, ty_8, ty_9, ty_10, ty_11, ty_12, ty_13, ty_14, ty_15, ty_16, ty_17, ty_18, ty_19, ty_20, ty_21, ty_22, ty_23, ty_24, ty_25, ty_26, ty_27, ty_28, ty_29, ty_30, ty_31, ty_32, ty_33, ty_34, ty_35, ty_36, ty_37, ty_38, ty_39, ty_40, ty_41, ty_42, ty_43, ty_44, ty_45, ty_46, ty_47, ty_48, ty_49, ty_50, ty_51, ty_52, ty_53, ty_54, ty_55, ty_56, ty_57, ty_58, ty_59, ty_60, ty_61, ty_62, ty_63, ty_64, ty_65, ty_66, ty_67, ty_68, ty_69, ty_70, ty_71, ty_72, ty_73, ty_74, ty_75, ty_76, ty_77, ty_78, ty_79, ty_80, ty_81, ty_82, ty_83, ty_84, ty_85, ty_86, ty_87, ty_88, ty_89, ty_90, ty_91, ty_92, ty_93, ty_94, ty_95, ty_96, ty_97, ty_98, ty_99, pl_3_10, pl_4_3, pl_5_3, pl_10_9, pl_10_11, pl_10_13, pl_13_1, pl_13_7, pl_16_6, pl_18_6, pl_19_1, pl_27_6, pl_27_11, pl_33_17, pl_35_4, pl_35_6, pl_36_10, pl_37_10, pl_39_3, pl_40_5, pl_40_11, pl_40_16, pl_40_17, pl_40_22, pl_40_23, pl_42_1, pl_42_3, pl_42_5, pl_42_8, pl_43_1, pl_43_3, pl_43_5, pl_43_8, pl_43_10, pl_43_13, pl_43_15, pl_43_18, pl_43_21, pl_46_3, pl_46_5, pl_46_6, pl_48_1, pl_48_2, pl_48_3, pl_52_1, hty, hpl, Ty.av, hhas, h1, h2, bytesOf]
        generalize hx : cdL E 31 36 (.loop b31_0) _ _ = x
        obtain ⟨tm', h', o', rfl, q1, q2, q3, q4, q5⟩ := rest o L _ _ x hx (by
          rcases hr with e | ⟨id, e, hg, hi⟩
          · exact .inl e
          · exact .inr ⟨id, e, by simp [T.get_set_ite]; rw [if_neg (by omega)]; exact hg, by simp; omega⟩) (by omega) (by simp [T.get_set_ite]) (by simp [T.get_set_ite]) (by simp [T.get_set_ite]) (by simp [T.get_set_ite]) (by simp) (.inl rfl) (fun j hj ho => by simp [T.get_set_ite]; omega)
        simp [cdL_seq, cdL_region, cdL_drawn, cdL_cond, cdL_block, cdL_skip, cdL_label, cdL_exit, cdL_ret, endL, evSeq, evOne, evAct, evOp, opKind, evPure, evRead, evNew, evWrite, evSlice, natOf, optVal, readAt, AV.cells, wantedA, putTm, val, allVals, evBin, evInt, evStr, evAppend, denseFrom, sizesAre, onesIn, evPlan, recheck, AV.beq_refl, H.new, H.put, fillF, fillAt, allOne, AV.one, setArgs, evRes, resOf, ofVal, ofVal0, blt_dec, ble_dec, beq_dec, T.get_set_ite, T.get_e, isShift, ikBeq, ty_0, ty_1, ty_2, ty_3, ty_4, ty_5, ty_6, ty_7, ty_8, ty_9, ty_10, ty_11, ty_12, ty_13, ty_14, ty_15, ty_16, ty_17, ty_18, ty_19, ty_20, ty_21, ty_22, ty_23, ty_24, ty_25, ty_26, ty_27, ty_28, ty_29, ty_30, ty_31, ty_32, ty_33, ty_34, ty_35, ty_36, ty_37, ty_38, ty_39, ty_40, ty_41, ty_42, ty_43, ty_44, ty_45, ty_46, ty_47, ty_48, ty_49, ty_50, ty_51, ty_52, ty_53, ty_54, ty_55, ty_56, ty_57, ty_58, ty_59, ty_60, ty_61, ty_62, ty_63, ty_64, ty_65, ty_66, ty_67, ty_68, ty_69, ty_70, ty_71, ty_72, ty_73, ty_74, ty_75, ty_76, ty_77, ty_78, ty_79, ty_80, ty_81, ty_82, ty_83, ty_84, ty_85, ty_86, ty_87, ty_88, ty_89, ty_90, ty_91, ty_92, ty_93, ty_94, ty_95, ty_96, ty_97, ty_98, ty_99, pl_3_10, pl_4_3, pl_5_3, pl_10_9, pl_10_11, pl_10_13, pl_13_1, pl_13_7, pl_16_6, pl_18_6, pl_19_1, pl_27_6, pl_27_11, pl_33_17, pl_35_4, pl_35_6, pl_36_10, pl_37_10, pl_39_3, pl_40_5, pl_40_11, pl_40_16, pl_40_17, pl_40_22, pl_40_23, pl_42_1, pl_42_3, pl_42_5, pl_42_8, pl_43_1, pl_43_3, pl_43_5, pl_43_8, pl_43_10, pl_43_13, pl_43_15, pl_43_18, pl_43_21, pl_46_3, pl_46_5, pl_46_6, pl_48_1, pl_48_2, pl_48_3, pl_52_1, hty, hpl, q1]
        exact ⟨o', h', ⟨rfl, rfl⟩, q2, q3, q4, q5⟩
      | false =>
        have eap : ints L ++ [.int .i64 n] = ints (L ++ [n]) := by simp [ints]
        have hlen1 : (ints (L ++ [n])).length = L.length + 1 := by simp [ints]
        rcases hr with ⟨rfl, e0⟩ | ⟨id, rfl, hg, hi⟩
        · have eL : L = [] := by simpa [ints] using e0
          subst eL
          have hh2 : ∀ h, evL E 11 [.sl .full [], .int .i64 n] h = some (.bool false, h) := fun h => by rw [← h2]; exact hhas h
          simp [cdL_seq, cdL_region, cdL_drawn, cdL_cond, cdL_block, cdL_skip, cdL_label, cdL_exit, cdL_ret, endL, evSeq, evOne, evAct, evOp, opKind, evPure, evRead, evNew, evWrite, evSlice, natOf, optVal, readAt, AV.cells, wantedA, putTm, val, allVals, evBin, evInt, evStr, evAppend, denseFrom, sizesAre, onesIn, evPlan, recheck, AV.beq_refl, H.new, H.put, fillF, fillAt, allOne, AV.one, setArgs, evRes, resOf, ofVal, ofVal0, blt_dec, ble_dec, beq_dec, T.get_set_ite, T.get_e, isShift, ikBeq, ty_0, ty_1, ty_2, ty_3, ty_4, ty_5, ty_6, ty_7, ty_8, ty_9, ty_10, ty_11, ty_12, ty_13, ty_14, ty_15, ty_16, ty_17, ty_18, ty_19, ty_20, ty_21, ty_22, ty_23, ty_24, ty_25, ty_26, ty_27, ty_28, ty_29, ty_30, ty_31, ty_32, ty_33, ty_34, ty_35, ty_36, ty_37, ty_38, ty_39, ty_40, ty_41, ty_42, ty_43, ty_44, ty_45, ty_46, ty_47, ty_48, ty_49, ty_50, ty_51, ty_52, ty_53, ty_54, ty_55, ty_56, ty_57, ty_58, ty_59, ty_60, ty_61, ty_62, ty_63, ty_64, ty_65, ty_66, ty_67, ty_68, ty_69, ty_70, ty_71, ty_72, ty_73, ty_74, ty_75, ty_76, ty_77, ty_78, ty_79, ty_80, ty_81, ty_82, ty_83, ty_84, ty_85, ty_86, ty_87, ty_88, ty_89, ty_90, ty_91, ty_92, ty_93, ty_94, ty_95, ty_96, ty_97, ty_98, ty_99, pl_3_10, pl_4_3, pl_5_3, pl_10_9, pl_10_11, pl_10_13, pl_13_1, pl_13_7, pl_16_6, pl_18_6, pl_19_1, pl_27_6, pl_27_11, pl_33_17, pl_35_4, pl_35_6, pl_36_10, pl_37_10, pl_39_3, pl_40_5, pl_40_11, pl_40_16, pl_40_17, pl_40_22, pl_40_23, pl_42_1, pl_42_3, pl_42_5, pl_42_8, pl_43_1, pl_43_3, pl_43_5, pl_43_8, pl_43_10, pl_43_13, pl_43_15, pl_43_18, pl_43_21, pl_46_3, pl_46_5, pl_46_6, pl_48_1, pl_48_2, pl_48_3, pl_52_1, hty, hpl, Ty.av, hh2, h1, h2, bytesOf, ints]
          generalize hx : cdL E 31 36 (.loop b31_0) _ _ = x
          obtain ⟨tm', h', o', rfl, q1, q2, q3, q4, q5⟩ := rest (.ch (h.nx + 1)) [n] _ _ x hx (.inr ⟨_, rfl, by simp [T.get_set_ite, ints], by simp⟩) (by simp; omega) (by simp [T.get_set_ite, ints]) (by simp [T.get_set_ite]) (by simp [T.get_set_ite]) (by simp [T.get_set_ite]) (by simp; omega) (.inr ⟨_, rfl, by simp⟩) (fun j hj ho => by simp only [T.get_set_ite]; rw [if_neg (by omega), if_neg (by omega)])
          refine ⟨o', h', ?_, q2, q3, q4, fun j hj => q5 j hj (by simp)⟩
          simp [cdL_seq, cdL_region, cdL_drawn, cdL_cond, cdL_block, cdL_skip, cdL_label, cdL_exit, cdL_ret, endL, evSeq, evOne, evAct, evOp, opKind, evPure, evRead, evNew, evWrite, evSlice, natOf, optVal, readAt, AV.cells, wantedA, putTm, val, allVals, evBin, evInt, evStr, evAppend, denseFrom, sizesAre, onesIn, evPlan, recheck, AV.beq_refl, H.new, H.put, fillF, fillAt, allOne, AV.one, setArgs, evRes, resOf, ofVal, ofVal0, blt_dec, ble_dec, beq_dec, T.get_set_ite, T.get_e, isShift, ikBeq, ty_0, ty_1, ty_2, ty_3, ty_4, ty_5, ty_6, ty_7, ty_8, ty_9, ty_10, ty_11, ty_12, ty_13, ty_14, ty_15, ty_16, ty_17, ty_18, ty_19, ty_20, ty_21, ty_22, ty_23, ty_24, ty_25, ty_26, ty_27, ty_28, ty_29, ty_30, ty_31, ty_32, ty_33, ty_34, ty_35, ty_36, ty_37, ty_38, ty_39, ty_40, ty_41, ty_42, ty_43, ty_44, ty_45, ty_46, ty_47, ty_48, ty_49, ty_50, ty_51, ty_52, ty_53, ty_54, ty_55, ty_56, ty_57, ty_58, ty_59, ty_60, ty_61, ty_62, ty_63, ty_64, ty_65, ty_66, ty_67, ty_68, ty_69, ty_70, ty_71, ty_72, ty_73, ty_74, ty_75, ty_76, ty_77, ty_78, ty_79, ty_80, ty_81, ty_82, ty_83, ty_84, ty_85, ty_86, ty_87, ty_88, ty_89, ty_90, ty_91, ty_92, ty_93, ty_94, ty_95, ty_96, ty_97, ty_98, ty_99, pl_3_10, pl_4_3, pl_5_3, pl_10_9, pl_10_11, pl_10_13, pl_13_1, pl_13_7, pl_16_6, pl_18_6, pl_19_1, pl_27_6, pl_27_11, pl_33_17, pl_35_4, pl_35_6, pl_36_10, pl_37_10, pl_39_3, pl_40_5, pl_40_11, pl_40_16, pl_40_17, pl_40_22, pl_40_23, pl_42_1, pl_42_3, pl_42_5, pl_42_8, pl_43_1, pl_43_3, pl_43_5, pl_43_8, pl_43_10, pl_43_13, pl_43_15, pl_43_18, pl_43_21, pl_46_3, pl_46_5, pl_46_6, pl_48_1, pl_48_2, pl_48_3, pl_52_1, hty, hpl, q1, ints]
        · have hne : id ≠ h.nx := by omega
          have hne2 : h.nx ≠ id := by omega
          rw [hil] at hg
          simp [cdL_seq, cdL_region, cdL_drawn, cdL_cond, cdL_block, cdL_skip, cdL_label, cdL_exit, cdL_ret, endL, evSeq, evOne, evAct, evOp, opKind, evPure, evRead, evNew, evWrite, evSlice, natOf, optVal, readAt, AV.cells, wantedA, putTm, val, allVals, evBin, evInt, evStr, evAppend, denseFrom, sizesAre, onesIn, evPlan, recheck, AV.beq_refl, H.new, H.put, fillF, fillAt, allOne, AV.one, setArgs, evRes, resOf, ofVal, ofVal0, blt_dec, ble_dec, beq_dec, T.get_set_ite, T.get_e, isShift, ikBeq, ty_0, ty_1, ty_2, ty_3, ty_4, ty_5, ty_6, ty_7, ty_8, ty_9, ty_10, ty_11, ty_12, ty_13, ty_14, ty_15, ty_16, ty_17, ty_18, ty_19, ty_20, ty_21, ty_22, ty_23, ty_24, ty_25, ty_26, ty_27, ty_28, ty_29, ty_30, ty_31, ty_32, ty_33, ty_34, ty_35, ty_36, ty_37, ty_38, ty_39, ty_40, ty_41, ty_42, ty_43, ty_44, ty_45, ty_46, ty_47, ty_48, ty_49, ty_50, ty_51, ty_52, ty_53, ty_54, ty_55, ty_56, ty_57, ty_58, ty_59, ty_60, ty_61, ty_62, ty_63, ty_64, ty_65, ty_66, ty_67, ty_68, ty_69, ty_70, ty_71, ty_72, ty_73, ty_74, ty_75, ty_76, ty_77, ty_78, ty_79, ty_80, ty_81, ty_82, ty_83, ty_84, ty_85, ty_86, ty_87, ty_88, ty_89, ty_90, ty_91, ty_92, ty_93, ty_94, ty_95, ty_96, ty_97, ty_98, ty_99, pl_3_10, pl_4_3, pl_5_3, pl_10_9, pl_10_11, pl_10_13, pl_13_1, pl_13_7, pl_16_6, pl_18_6, pl_19_1, pl_27_6, pl_27_11, pl_33_17, pl_35_4, pl_35_6, pl_36_10, pl_37_10, pl_39_3, pl_40_5, pl_40_11, pl_40_16, pl_40_17, pl_40_22, pl_40_23, pl_42_1, pl_42_3, pl_42_5, pl_42_8, pl_43_1, pl_43_3, pl_43_5, pl_43_8, pl_43_10, pl_43_13, pl_43_15, pl_43_18, pl_43_21, pl_46_3, pl_46_5, pl_46_6, pl_48_1, pl_48_2, pl_48_3, pl_52_1, hty, hpl, Ty.av, hhas, h1, h2, bytesOf, hg, hne, hne2, hil, his, hby]
          generalize hx : cdL E 31 36 (.loop b31_0) _ _ = x
          obtain ⟨tm', h', o', rfl, q1, q2, q3, q4, q5⟩ := rest (.ch id) (L ++ [n]) _ _ x hx (.inr ⟨_, rfl, by simp [T.get_set_ite, hlen1], by simp; omega⟩) (by simp; omega) (by simp [T.get_set_ite, eap]) (by simp [T.get_set_ite]) (by simp [T.get_set_ite]) (by simp [T.get_set_ite, hne2]) (by simp) (.inl rfl) (fun j hj ho => by
            have : j ≠ id := fun e => ho (by rw [e])
            simp [T.get_set_ite, this]; omega)
          refine ⟨o', h', ?_, q2, q3, q4, fun j hj hne => q5 j hj (by simpa using hne)⟩
          simp [cdL_seq, cdL_region, cdL_drawn, cdL_cond, cdL_block, cdL_skip, cdL_label, cdL_exit, cdL_ret, endL, evSeq, evOne, evAct, evOp, opKind, evPure, evRead, evNew, evWrite, evSlice, natOf, optVal, readAt, AV.cells, wantedA, putTm, val, allVals, evBin, evInt, evStr, evAppend, denseFrom, sizesAre, onesIn, evPlan, recheck, AV.beq_refl, H.new, H.put, fillF, fillAt, allOne, AV.one, setArgs, evRes, resOf, ofVal, ofVal0, blt_dec, ble_dec, beq_dec, T.get_set_ite, T.get_e, isShift, ikBeq, ty_0, ty_1, ty_2, ty_3, ty_4, ty_5, ty_6, ty_7, ty_8, ty_9, ty_10, ty_11, ty_12, ty_13, ty_14, ty_15, ty_16, ty_17, ty_18, ty_19, ty_20, ty_21, ty_22, ty_23, ty_24, ty_25, ty_26, ty_27, ty_28, ty_29, ty_30, ty_31, ty_32, ty_33, ty_34, ty_35, ty_36, ty_37, ty_38, ty_39, ty_40, ty_41, ty_42, ty_43, ty_44, ty_45, ty_46, ty_47, ty_48, ty_49, ty_50, ty_51, ty_52, ty_53, ty_54, ty_55, ty_56, ty_57, ty_58, ty_59, ty_60, ty_61, ty_62, ty_63, ty_64, ty_65, ty_66, ty_67, ty_68, ty_69, ty_70, ty_71, ty_72, ty_73, ty_74, ty_75, ty_76, ty_77, ty_78, ty_79, ty_80, ty_81, ty_82, ty_83, ty_84, ty_85, ty_86, ty_87, ty_88, ty_89, ty_90, ty_91, ty_92, ty_93, ty_94, ty_95, ty_96, ty_97, ty_98, ty_99, pl_3_10, pl_4_3, pl_5_3, pl_10_9, pl_10_11, pl_10_13, pl_13_1, pl_13_7, pl_16_6, pl_18_6, pl_19_1, pl_27_6, pl_27_11, pl_33_17, pl_35_4, pl_35_6, pl_36_10, pl_37_10, pl_39_3, pl_40_5, pl_40_11, pl_40_16, pl_40_17, pl_40_22, pl_40_23, pl_42_1, pl_42_3, pl_42_5, pl_42_8, pl_43_1, pl_43_3, pl_43_5, pl_43_8, pl_43_10, pl_43_13, pl_43_15, pl_43_18, pl_43_21, pl_46_3, pl_46_5, pl_46_6, pl_48_1, pl_48_2, pl_48_3, pl_52_1, hty, hpl, q1]
/-- Vars. -/
def qv (t : Ty) : Prop := fit t ∧ size t ≤ 1000000
noncomputable abbrev p23 := primVal (ofRel (Rel1 qv (fun t => varsF t [])))
theorem own_full {n : Nat} {o : Own} : o.wk n .no := .inl rfl
theorem p23_ok : PrimOk Try.prog 22 p23 := prim1_ok envA_ok (fn := Try.f22) (by kernel_rfl) rfl (by kernel_rfl) fun t hq => by
  have hv := fun h => vars_run (E := envA) rfl rfl (by kernel_rfl) (by kernel_rfl) (by kernel_rfl) (dep t) t .full [] h (Nat.le_refl _) hq.1 (.inl ⟨rfl, rfl⟩) (by simpa using hq.2)
  have hty : envA.ty = env.ty := rfl
  obtain ⟨o', h', e, _⟩ := hv ⟨T.e.set 0 (.cells t.av.cells), 1⟩
  obtain ⟨a, b, c, ea⟩ := av_agg t
  unfold bodyL
  rw [show (Enc.enc t : AV) = t.av from rfl]
  rw [ea] at e ⊢
  simp only [AV.cells] at e
  simp only [Try.f22]
  simp [cdL_seq, cdL_region, cdL_drawn, cdL_cond, cdL_block, cdL_skip, cdL_label, cdL_exit, cdL_ret, endL, evSeq, evOne, evAct, evOp, opKind, evPure, evRead, evNew, evWrite, evSlice, natOf, optVal, readAt, AV.cells, wantedA, putTm, val, allVals, evBin, evInt, evStr, evAppend, denseFrom, sizesAre, onesIn, evPlan, recheck, AV.beq_refl, H.new, H.put, fillF, fillAt, allOne, AV.one, setArgs, evRes, resOf, ofVal, ofVal0, blt_dec, ble_dec, beq_dec, T.get_set_ite, T.get_e, isShift, ikBeq, ty_0, ty_1, ty_2, ty_3, ty_4, ty_5, ty_6, ty_7, ty_8, ty_9, ty_10, ty_11, ty_12, ty_13, ty_14, ty_15, ty_16, ty_17, ty_18, ty_19, ty_20, ty_21, ty_22, ty_23, ty_24, ty_25, ty_26, ty_27, ty_28, ty_29, ty_30, ty_31, ty_32, ty_33, ty_34, ty_35, ty_36, ty_37, ty_38, ty_39, ty_40, ty_41, ty_42, ty_43, ty_44, ty_45, ty_46, ty_47, ty_48, ty_49, ty_50, ty_51, ty_52, ty_53, ty_54, ty_55, ty_56, ty_57, ty_58, ty_59, ty_60, ty_61, ty_62, ty_63, ty_64, ty_65, ty_66, ty_67, ty_68, ty_69, ty_70, ty_71, ty_72, ty_73, ty_74, ty_75, ty_76, ty_77, ty_78, ty_79, ty_80, ty_81, ty_82, ty_83, ty_84, ty_85, ty_86, ty_87, ty_88, ty_89, ty_90, ty_91, ty_92, ty_93, ty_94, ty_95, ty_96, ty_97, ty_98, ty_99, pl_3_10, pl_4_3, pl_5_3, pl_10_9, pl_10_11, pl_10_13, pl_13_1, pl_13_7, pl_16_6, pl_18_6, pl_19_1, pl_27_6, pl_27_11, pl_33_17, pl_35_4, pl_35_6, pl_36_10, pl_37_10, pl_39_3, pl_40_5, pl_40_11, pl_40_16, pl_40_17, pl_40_22, pl_40_23, pl_42_1, pl_42_3, pl_42_5, pl_42_8, pl_43_1, pl_43_3, pl_43_5, pl_43_8, pl_43_10, pl_43_13, pl_43_15, pl_43_18, pl_43_21, pl_46_3, pl_46_5, pl_46_6, pl_48_1, pl_48_2, pl_48_3, pl_52_1, hty, ints] at e ⊢
  simp [cdL_seq, cdL_region, cdL_drawn, cdL_cond, cdL_block, cdL_skip, cdL_label, cdL_exit, cdL_ret, endL, evSeq, evOne, evAct, evOp, opKind, evPure, evRead, evNew, evWrite, evSlice, natOf, optVal, readAt, AV.cells, wantedA, putTm, val, allVals, evBin, evInt, evStr, evAppend, denseFrom, sizesAre, onesIn, evPlan, recheck, AV.beq_refl, H.new, H.put, fillF, fillAt, allOne, AV.one, setArgs, evRes, resOf, ofVal, ofVal0, blt_dec, ble_dec, beq_dec, T.get_set_ite, T.get_e, isShift, ikBeq, ty_0, ty_1, ty_2, ty_3, ty_4, ty_5, ty_6, ty_7, ty_8, ty_9, ty_10, ty_11, ty_12, ty_13, ty_14, ty_15, ty_16, ty_17, ty_18, ty_19, ty_20, ty_21, ty_22, ty_23, ty_24, ty_25, ty_26, ty_27, ty_28, ty_29, ty_30, ty_31, ty_32, ty_33, ty_34, ty_35, ty_36, ty_37, ty_38, ty_39, ty_40, ty_41, ty_42, ty_43, ty_44, ty_45, ty_46, ty_47, ty_48, ty_49, ty_50, ty_51, ty_52, ty_53, ty_54, ty_55, ty_56, ty_57, ty_58, ty_59, ty_60, ty_61, ty_62, ty_63, ty_64, ty_65, ty_66, ty_67, ty_68, ty_69, ty_70, ty_71, ty_72, ty_73, ty_74, ty_75, ty_76, ty_77, ty_78, ty_79, ty_80, ty_81, ty_82, ty_83, ty_84, ty_85, ty_86, ty_87, ty_88, ty_89, ty_90, ty_91, ty_92, ty_93, ty_94, ty_95, ty_96, ty_97, ty_98, ty_99, pl_3_10, pl_4_3, pl_5_3, pl_10_9, pl_10_11, pl_10_13, pl_13_1, pl_13_7, pl_16_6, pl_18_6, pl_19_1, pl_27_6, pl_27_11, pl_33_17, pl_35_4, pl_35_6, pl_36_10, pl_37_10, pl_39_3, pl_40_5, pl_40_11, pl_40_16, pl_40_17, pl_40_22, pl_40_23, pl_42_1, pl_42_3, pl_42_5, pl_42_8, pl_43_1, pl_43_3, pl_43_5, pl_43_8, pl_43_10, pl_43_13, pl_43_15, pl_43_18, pl_43_21, pl_46_3, pl_46_5, pl_46_6, pl_48_1, pl_48_2, pl_48_3, pl_52_1, hty, e, Enc.enc, wk_agg, wk_tup, wk_sl, wks_cons, wks_nil, wk_int, wk_str, wk_bool, own_no]
  exact wks_map_refl 0 _
end Go.Proofs.Ytcmbpfobdgijjaa.Env
