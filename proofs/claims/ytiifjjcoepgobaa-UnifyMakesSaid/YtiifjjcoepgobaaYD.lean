/- Is, Same. -/
import Derived.Test.YtiifjjcoepgobaaYC
set_option autoImplicit false
set_option maxRecDepth 100000
set_option linter.unusedSimpArgs false
set_option linter.unusedVariables false
set_option linter.unusedSectionVars false
namespace Go.Proofs.Ytiifjjcoepgobaa.Env
open Go.Ev

noncomputable def envB : Env := addPrim (addPrim envA 9 p9) 26 p26
theorem envB_ok : EnvOk Try.prog envB := addPrim_ok (addPrim_ok envA_ok p9_ok) p26_ok
theorem c9 {E : Env} (hp : E.prim 9 = some p9) (t : Ty) (m : Int) (hf : fit t) (hm : 0 ≤ m ∧ m ≤ 4000) (h : H) : evL E 9 [t.av, .int .i64 m] h = some (.int .i64 (szF t m), h) :=
  prim2_call (a := t) (b := m) (F := szF) (q := q9') hp (Enc.bare 0 t) (Enc.bare 0 m) ⟨hf, hm⟩ h
theorem c26 {E : Env} (hp : E.prim 26 = some p26) (t : Ty) (hf : fit t) (h : H) : evL E 26 [t.av] h = some (.bool (eachF t), h) :=
  prim1_call (a := t) (F := eachF) (q := fit) hp (Enc.bare 0 t) hf h
def isF (t : Ty) : Bool := !ltI 2000 (szF t 2001) && eachF t
noncomputable abbrev p10 := primVal (ofRel (Rel1 fit isF))
theorem p10_ok : PrimOk Try.prog 10 p10 := prim1_ok envB_ok (fn := Try.f10) (by kernel_rfl) rfl (by kernel_rfl) fun t hf => by
  have k9 := fun h => c9 (E := envB) (by kernel_rfl) t 2001 hf (by omega) h
  have k26 := fun h => c26 (E := envB) (by kernel_rfl) t hf h
  have hty : envB.ty = env.ty := rfl
  obtain ⟨a, b, c, e⟩ := av_agg t
  unfold bodyL isF
  rw [show (Enc.enc t : AV) = t.av from rfl]
  rw [e] at k9 k26 ⊢
  simp only [Try.f10]
  cases h1 : ltI 2000 (szF t 2001) <;> simp [cdL_seq, cdL_region, cdL_drawn, cdL_cond, cdL_block, cdL_skip, cdL_label, cdL_exit, cdL_ret, endL, evSeq, evOne, evAct, evOp, opKind, evPure, evRead, evNew, evWrite, evSlice, natOf, optVal, readAt, AV.cells, wantedA, putTm, val, allVals, evBin, evInt, evStr, evAppend, denseFrom, sizesAre, onesIn, evPlan, recheck, AV.beq_refl, H.new, H.put, fillF, fillAt, allOne, AV.one, setArgs, evRes, resOf, ofVal, ofVal0, blt_dec, ble_dec, beq_dec, T.get_set_ite, T.get_e, isShift, ikBeq, ty_0, ty_1, ty_2, ty_3, ty_4, ty_5, ty_6, ty_7, ty_8, ty_9, ty_10, ty_11, ty_12, ty_13, ty_14, ty_15, ty_16, ty_17, ty_18, ty_19, ty_20, ty_21, ty_22, ty_23, ty_24, ty_25, ty_26, ty_27, ty_28, ty_29, ty_30, ty_31, ty_32, ty_33, ty_34, ty_35, ty_36, ty_37, ty_38, ty_39, ty_40, ty_41, ty_42, ty_43, ty_44, ty_45, ty_46, ty_47, ty_48, ty_49, ty_50, ty_51, ty_52, ty_53, ty_54, ty_55, ty_56, ty_57, ty_58, ty_59, ty_60, ty_61, ty_62, ty_63, ty_64, ty_65, ty_66, ty_67, ty_68, ty_69, ty_70, ty_71, ty_72, ty_73, ty_74, ty_75, ty_76, ty_77, ty_78, pl_3_7, pl_3_12, pl_3_14, pl_3_15, pl_3_17, pl_4_12, pl_5_7, pl_6_16, pl_6_21, pl_7_3, pl_7_7, pl_8_5, pl_12_3, pl_13_1, pl_13_11, pl_15_6, pl_16_8, pl_17_4, pl_19_5, pl_19_12, pl_24_5, pl_24_12, pl_26_1, pl_27_2, pl_28_3, pl_30_3, pl_33_2, hty, Enc.enc, k9, k26, h1, AV.wk]

/-! ### Same -/
mutual
def sameF : Ty → Ty → Bool
  | .mk o1 n1 k1, .mk o2 n2 k2 => natsBeq o1 o2 && (intBeq n1 n2 && (intBeq ↑k1.length ↑k2.length && sameL k1 k2))
def sameL : List Ty → List Ty → Bool
  | [], [] => true
  | a :: l, b :: m => sameF a b && sameL l m
  | _, _ => false
end
theorem natsBeq_iff {a b : List Nat} : natsBeq a b = true ↔ a = b := by
  constructor
  · induction a generalizing b with
    | nil => cases b <;> simp [natsBeq]
    | cons x a ih =>
      cases b with
      | nil => simp [natsBeq]
      | cons y b =>
        simp only [natsBeq, Bool.and_eq_true]
        rintro ⟨h1, h2⟩
        rw [Nat.eq_of_beq_eq_true h1, ih h2]
  · rintro rfl; exact natsBeq_refl a
theorem intBeq_iff {a b : Int} : intBeq a b = true ↔ a = b := by rw [intBeq_eq]; simp
mutual
theorem sameF_iff : ∀ {a b : Ty}, sameF a b = true ↔ a = b
  | .mk o1 n1 k1, .mk o2 n2 k2 => by
    simp only [sameF, Bool.and_eq_true, natsBeq_iff, intBeq_iff, sameL_iff, Ty.mk.injEq]
    constructor
    · rintro ⟨h1, h2, _, h3⟩; exact ⟨h1, h2, h3⟩
    · rintro ⟨h1, h2, h3⟩; exact ⟨h1, h2, by rw [h3], h3⟩
theorem sameL_iff : ∀ {a b : List Ty}, sameL a b = true ↔ a = b
  | [], [] => by simp [sameL]
  | [], b :: m => by simp [sameL]
  | a :: l, [] => by simp [sameL]
  | a :: l, b :: m => by simp only [sameL, Bool.and_eq_true, sameF_iff, sameL_iff, List.cons.injEq]
end
noncomputable def b15_0 : Code := loopOf Try.f15 0
theorem body15 : Try.f15.body = some (.seq (codeAt Try.f15 [0]) (.seq (codeAt Try.f15 [1, 0]) (.seq (.seq (codeAt Try.f15 [1, 1, 0, 0]) (.block 0 (.loop b15_0))) (codeAt Try.f15 [1, 1, 1])))) := rfl
theorem loop15 {E : Env} (hty : E.ty = env.ty) (hpl : E.plan = env.plan) {o1 o2 : List Nat} {n1 n2 : Int} {k1 k2 : List Ty} {d : Nat} (hl : k1.length ≤ 9223372036854775807) (he : k1.length = k2.length) (hf1 : fits k1) (hf2 : fits k2) (hd : deps k1 ≤ d)
    (hc : ∀ a b h, dep a ≤ d → fit a → fit b → evL E 15 [a.av, b.av] h = some (.bool (sameF a b), h)) :
    ∀ (l m : List Ty) (i : Nat) {tm : Tm} {h : H} {x : Option (Ex × Tm × H)}, cdL E 15 46 (.loop b15_0) tm h = x → l = k1.drop i → m = k2.drop i → i ≤ k1.length →
    tm.get 2 = some (.ptr (some (0, 0))) → tm.get 3 = some (.ptr (some (1, 0))) → tm.get 5 = some (.int .i64 ↑i) → h.t.get 0 = some (.cells [.str o1, .int .i64 n1, .sl .no (Ty.avs k1)]) → h.t.get 1 = some (.cells [.str o2, .int .i64 n2, .sl .no (Ty.avs k2)]) →
    ∃ tm', x = some (bif sameL l m then .exit 0 else .ret, tm', h) ∧ (sameL l m = false → tm'.get 4 = some (.bool false))
  | [], m, i, tm, h, x, hx, hd1, hd2, hi, h2, h3, h5, hz, hz1 => by
    have hlen := dnil hd1 hi
    have : m = [] := by rw [hd2]; exact List.drop_eq_nil_of_le (by omega)
    subst this
    have hl2 : (Ty.avs k1).length = i := by rw [avs_len]; exact hlen
    obtain ⟨R, hR, hx⟩ := loop_step hx
    simp [b15_0, loopOf, Try.f15, loops, cdL_seq, cdL_region, cdL_drawn, cdL_cond, cdL_block, cdL_skip, cdL_label, cdL_exit, cdL_ret, endL, evSeq, evOne, evAct, evOp, opKind, evPure, evRead, evNew, evWrite, evSlice, natOf, optVal, readAt, AV.cells, wantedA, putTm, val, allVals, evBin, evInt, evStr, evAppend, denseFrom, sizesAre, onesIn, evPlan, recheck, AV.beq_refl, H.new, H.put, fillF, fillAt, allOne, AV.one, setArgs, evRes, resOf, ofVal, ofVal0, blt_dec, ble_dec, beq_dec, T.get_set_ite, T.get_e, isShift, ikBeq, ty_0, ty_1, ty_2, ty_3, ty_4, ty_5, ty_6, ty_7, ty_8, ty_9, ty_10, ty_11, ty_12, ty_13, ty_14, ty_15, ty_16, ty_17, ty_18, ty_19, ty_20, ty_21, ty_22, ty_23, ty_24, ty_25, ty_26, ty_27, ty_28, ty_29, ty_30, ty_31, ty_32, ty_33, ty_34, ty_35, ty_36, ty_37, ty_38, ty_39, ty_40, ty_41, ty_42, ty_43, ty_44, ty_45, ty_46, ty_47, ty_48, ty_49, ty_50, ty_51, ty_52, ty_53, ty_54, ty_55, ty_56, ty_57, ty_58, ty_59, ty_60, ty_61, ty_62, ty_63, ty_64, ty_65, ty_66, ty_67, ty_68, ty_69, ty_70, ty_71, ty_72, ty_73, ty_74, ty_75, ty_76, ty_77, ty_78, pl_3_7, pl_3_12, pl_3_14, pl_3_15, pl_3_17, pl_4_12, pl_5_7, pl_6_16, pl_6_21, pl_7_3, pl_7_7, pl_8_5, pl_12_3, pl_13_1, pl_13_11, pl_15_6, pl_16_8, pl_17_4, pl_19_5, pl_19_12, pl_24_5, pl_24_12, pl_26_1, pl_27_2, pl_28_3, pl_30_3, pl_33_2, lp, hty, hpl, h2, h3, h5, hz, hz1, hl2, ltI_f] at hx
    exact ⟨_, by rw [← hx]; rfl, by simp [sameL]⟩
  | a :: l, [], i, tm, h, x, hx, hd1, hd2, hi, h2, h3, h5, hz, hz1 => by
    obtain ⟨hlt, _, _⟩ := dcons hd1
    have := congrArg List.length hd2
    simp at this
    omega
  | a :: l, b :: m, i, tm, h, x, hx, hd1, hd2, hi, h2, h3, h5, hz, hz1 => by
    obtain ⟨hlt, hct, hd'⟩ := dcons hd1
    obtain ⟨hlt2, hct2, hd2'⟩ := dcons hd2
    have hl2 := avs_len k1
    have hat := avs_get hct
    have hbt := avs_get hct2
    have htm := List.mem_of_getElem? hct
    have htm2 := List.mem_of_getElem? hct2
    obtain ⟨R, hR, hx⟩ := loop_step hx
    have hlt' := ltI_t hlt
    have hw := wr_succ (i := i) (by omega)
    have hcall := fun h => hc a b h (Nat.le_trans (dep_mem htm) hd) (fits_mem.1 hf1 a htm) (fits_mem.1 hf2 b htm2)
    obtain ⟨a0, a1, a2, ha⟩ := av_agg a
    obtain ⟨b0, b1, b2, hb0⟩ := av_agg b
    rw [ha] at hat hcall
    rw [hb0] at hbt hcall
    cases hb : sameF a b with
    | false =>
      simp [b15_0, loopOf, Try.f15, loops, cdL_seq, cdL_region, cdL_drawn, cdL_cond, cdL_block, cdL_skip, cdL_label, cdL_exit, cdL_ret, endL, evSeq, evOne, evAct, evOp, opKind, evPure, evRead, evNew, evWrite, evSlice, natOf, optVal, readAt, AV.cells, wantedA, putTm, val, allVals, evBin, evInt, evStr, evAppend, denseFrom, sizesAre, onesIn, evPlan, recheck, AV.beq_refl, H.new, H.put, fillF, fillAt, allOne, AV.one, setArgs, evRes, resOf, ofVal, ofVal0, blt_dec, ble_dec, beq_dec, T.get_set_ite, T.get_e, isShift, ikBeq, ty_0, ty_1, ty_2, ty_3, ty_4, ty_5, ty_6, ty_7, ty_8, ty_9, ty_10, ty_11, ty_12, ty_13, ty_14, ty_15, ty_16, ty_17, ty_18, ty_19, ty_20, ty_21, ty_22, ty_23, ty_24, ty_25, ty_26, ty_27, ty_28, ty_29, ty_30, ty_31, ty_32, ty_33, ty_34, ty_35, ty_36, ty_37, ty_38, ty_39, ty_40, ty_41, ty_42, ty_43, ty_44, ty_45, ty_46, ty_47, ty_48, ty_49, ty_50, ty_51, ty_52, ty_53, ty_54, ty_55, ty_56, ty_57, ty_58, ty_59, ty_60, ty_61, ty_62, ty_63, ty_64, ty_65, ty_66, ty_67, ty_68, ty_69, ty_70, ty_71, ty_72, ty_73, ty_74, ty_75, ty_76, ty_77, ty_78, pl_3_7, pl_3_12, pl_3_14, pl_3_15, pl_3_17, pl_4_12, pl_5_7, pl_6_16, pl_6_21, pl_7_3, pl_7_7, pl_8_5, pl_12_3, pl_13_1, pl_13_11, pl_15_6, pl_16_8, pl_17_4, pl_19_5, pl_19_12, pl_24_5, pl_24_12, pl_26_1, pl_27_2, pl_28_3, pl_30_3, pl_33_2, lp, hty, hpl, h2, h3, h5, hz, hz1, hl2, hlt', hat, hbt, hw, hcall, hb] at hx
      exact ⟨_, by rw [← hx]; simp [sameL, hb]; rfl, by simp [T.get_set_ite]⟩
    | true =>
      simp [b15_0, loopOf, Try.f15, loops, cdL_seq, cdL_region, cdL_drawn, cdL_cond, cdL_block, cdL_skip, cdL_label, cdL_exit, cdL_ret, endL, evSeq, evOne, evAct, evOp, opKind, evPure, evRead, evNew, evWrite, evSlice, natOf, optVal, readAt, AV.cells, wantedA, putTm, val, allVals, evBin, evInt, evStr, evAppend, denseFrom, sizesAre, onesIn, evPlan, recheck, AV.beq_refl, H.new, H.put, fillF, fillAt, allOne, AV.one, setArgs, evRes, resOf, ofVal, ofVal0, blt_dec, ble_dec, beq_dec, T.get_set_ite, T.get_e, isShift, ikBeq, ty_0, ty_1, ty_2, ty_3, ty_4, ty_5, ty_6, ty_7, ty_8, ty_9, ty_10, ty_11, ty_12, ty_13, ty_14, ty_15, ty_16, ty_17, ty_18, ty_19, ty_20, ty_21, ty_22, ty_23, ty_24, ty_25, ty_26, ty_27, ty_28, ty_29, ty_30, ty_31, ty_32, ty_33, ty_34, ty_35, ty_36, ty_37, ty_38, ty_39, ty_40, ty_41, ty_42, ty_43, ty_44, ty_45, ty_46, ty_47, ty_48, ty_49, ty_50, ty_51, ty_52, ty_53, ty_54, ty_55, ty_56, ty_57, ty_58, ty_59, ty_60, ty_61, ty_62, ty_63, ty_64, ty_65, ty_66, ty_67, ty_68, ty_69, ty_70, ty_71, ty_72, ty_73, ty_74, ty_75, ty_76, ty_77, ty_78, pl_3_7, pl_3_12, pl_3_14, pl_3_15, pl_3_17, pl_4_12, pl_5_7, pl_6_16, pl_6_21, pl_7_3, pl_7_7, pl_8_5, pl_12_3, pl_13_1, pl_13_11, pl_15_6, pl_16_8, pl_17_4, pl_19_5, pl_19_12, pl_24_5, pl_24_12, pl_26_1, pl_27_2, pl_28_3, pl_30_3, pl_33_2, lp, hty, hpl, h2, h3, h5, hz, hz1, hl2, hlt', hat, hbt, hw, hcall, hb] at hx
      rw [hR] at hx
      have e : sameL (a :: l) (b :: m) = sameL l m := by simp [sameL, hb]
      rw [e]
      exact loop15 hty hpl hl he hf1 hf2 hd hc l m (i + 1) hx hd' hd2' hlt (by simp [T.get_set_ite, h2]) (by simp [T.get_set_ite, h3]) (by simp [T.get_set_ite]) hz hz1
noncomputable abbrev pd15 (d : Nat) := primVal (ofRel (Rel2 (fun a b => dep a ≤ d ∧ fit a ∧ fit b) sameF))
theorem pd15_ok : ∀ d, PrimOk Try.prog 15 (pd15 d) := prim_rec envA_ok (prim_none Try.func15 (by kernel_rfl) (by kernel_rfl) (prim_empty fun a b h => by have := dep_pos a; have := h.1; omega)) fun d hE => by
  refine prim2_ok hE (fn := Try.f15) (by kernel_rfl) body15 (by kernel_rfl) fun s t hq => ?_
  obtain ⟨hdp, hf1, hf2⟩ := hq
  obtain ⟨o1, n1, k1⟩ := s
  obtain ⟨o2, n2, k2⟩ := t
  simp only [dep] at hdp
  simp only [fit] at hf1 hf2
  have hcall : ∀ a b h, dep a ≤ d → fit a → fit b → evL (addPrim envA 15 (pd15 d)) 15 [a.av, b.av] h = some (.bool (sameF a b), h) := fun a b h h1 h2 h3 =>
    prim2_call (a := a) (b := b) (F := sameF) (q := fun a b => dep a ≤ d ∧ fit a ∧ fit b) (by kernel_rfl) (Enc.bare 0 a) (Enc.bare 0 b) ⟨h1, h2, h3⟩ h
  generalize hEe : addPrim envA 15 (pd15 d) = E at *
  have hty : E.ty = env.ty := by rw [← hEe]; rfl
  have hpl : E.plan = env.plan := by rw [← hEe]; rfl
  have hl1 := avs_len k1
  have hl2 := avs_len k2
  have e0 : sameF (.mk o1 n1 k1) (.mk o2 n2 k2) = (natsBeq o1 o2 && (intBeq n1 n2 && (intBeq ↑k1.length ↑k2.length && sameL k1 k2))) := by simp [sameF]
  rw [e0]
  unfold bodyL
  simp only [codeAt, sub, Try.f15]
  cases h1 : natsBeq o1 o2
  case false => simp [cdL_seq, cdL_region, cdL_drawn, cdL_cond, cdL_block, cdL_skip, cdL_label, cdL_exit, cdL_ret, endL, evSeq, evOne, evAct, evOp, opKind, evPure, evRead, evNew, evWrite, evSlice, natOf, optVal, readAt, AV.cells, wantedA, putTm, val, allVals, evBin, evInt, evStr, evAppend, denseFrom, sizesAre, onesIn, evPlan, recheck, AV.beq_refl, H.new, H.put, fillF, fillAt, allOne, AV.one, setArgs, evRes, resOf, ofVal, ofVal0, blt_dec, ble_dec, beq_dec, T.get_set_ite, T.get_e, isShift, ikBeq, ty_0, ty_1, ty_2, ty_3, ty_4, ty_5, ty_6, ty_7, ty_8, ty_9, ty_10, ty_11, ty_12, ty_13, ty_14, ty_15, ty_16, ty_17, ty_18, ty_19, ty_20, ty_21, ty_22, ty_23, ty_24, ty_25, ty_26, ty_27, ty_28, ty_29, ty_30, ty_31, ty_32, ty_33, ty_34, ty_35, ty_36, ty_37, ty_38, ty_39, ty_40, ty_41, ty_42, ty_43, ty_44, ty_45, ty_46, ty_47, ty_48, ty_49, ty_50, ty_51, ty_52, ty_53, ty_54, ty_55, ty_56, ty_57, ty_58, ty_59, ty_60, ty_61, ty_62, ty_63, ty_64, ty_65, ty_66, ty_67, ty_68, ty_69, ty_70, ty_71, ty_72, ty_73, ty_74, ty_75, ty_76, ty_77, ty_78, pl_3_7, pl_3_12, pl_3_14, pl_3_15, pl_3_17, pl_4_12, pl_5_7, pl_6_16, pl_6_21, pl_7_3, pl_7_7, pl_8_5, pl_12_3, pl_13_1, pl_13_11, pl_15_6, pl_16_8, pl_17_4, pl_19_5, pl_19_12, pl_24_5, pl_24_12, pl_26_1, pl_27_2, pl_28_3, pl_30_3, pl_33_2, hty, hpl, Enc.enc, Ty.av, hl1, hl2, h1, AV.wk]
  cases h2 : intBeq n1 n2
  case false => simp [cdL_seq, cdL_region, cdL_drawn, cdL_cond, cdL_block, cdL_skip, cdL_label, cdL_exit, cdL_ret, endL, evSeq, evOne, evAct, evOp, opKind, evPure, evRead, evNew, evWrite, evSlice, natOf, optVal, readAt, AV.cells, wantedA, putTm, val, allVals, evBin, evInt, evStr, evAppend, denseFrom, sizesAre, onesIn, evPlan, recheck, AV.beq_refl, H.new, H.put, fillF, fillAt, allOne, AV.one, setArgs, evRes, resOf, ofVal, ofVal0, blt_dec, ble_dec, beq_dec, T.get_set_ite, T.get_e, isShift, ikBeq, ty_0, ty_1, ty_2, ty_3, ty_4, ty_5, ty_6, ty_7, ty_8, ty_9, ty_10, ty_11, ty_12, ty_13, ty_14, ty_15, ty_16, ty_17, ty_18, ty_19, ty_20, ty_21, ty_22, ty_23, ty_24, ty_25, ty_26, ty_27, ty_28, ty_29, ty_30, ty_31, ty_32, ty_33, ty_34, ty_35, ty_36, ty_37, ty_38, ty_39, ty_40, ty_41, ty_42, ty_43, ty_44, ty_45, ty_46, ty_47, ty_48, ty_49, ty_50, ty_51, ty_52, ty_53, ty_54, ty_55, ty_56, ty_57, ty_58, ty_59, ty_60, ty_61, ty_62, ty_63, ty_64, ty_65, ty_66, ty_67, ty_68, ty_69, ty_70, ty_71, ty_72, ty_73, ty_74, ty_75, ty_76, ty_77, ty_78, pl_3_7, pl_3_12, pl_3_14, pl_3_15, pl_3_17, pl_4_12, pl_5_7, pl_6_16, pl_6_21, pl_7_3, pl_7_7, pl_8_5, pl_12_3, pl_13_1, pl_13_11, pl_15_6, pl_16_8, pl_17_4, pl_19_5, pl_19_12, pl_24_5, pl_24_12, pl_26_1, pl_27_2, pl_28_3, pl_30_3, pl_33_2, hty, hpl, Enc.enc, Ty.av, hl1, hl2, h1, h2, AV.wk]
  cases h3 : intBeq ↑k1.length ↑k2.length
  case false => simp [cdL_seq, cdL_region, cdL_drawn, cdL_cond, cdL_block, cdL_skip, cdL_label, cdL_exit, cdL_ret, endL, evSeq, evOne, evAct, evOp, opKind, evPure, evRead, evNew, evWrite, evSlice, natOf, optVal, readAt, AV.cells, wantedA, putTm, val, allVals, evBin, evInt, evStr, evAppend, denseFrom, sizesAre, onesIn, evPlan, recheck, AV.beq_refl, H.new, H.put, fillF, fillAt, allOne, AV.one, setArgs, evRes, resOf, ofVal, ofVal0, blt_dec, ble_dec, beq_dec, T.get_set_ite, T.get_e, isShift, ikBeq, ty_0, ty_1, ty_2, ty_3, ty_4, ty_5, ty_6, ty_7, ty_8, ty_9, ty_10, ty_11, ty_12, ty_13, ty_14, ty_15, ty_16, ty_17, ty_18, ty_19, ty_20, ty_21, ty_22, ty_23, ty_24, ty_25, ty_26, ty_27, ty_28, ty_29, ty_30, ty_31, ty_32, ty_33, ty_34, ty_35, ty_36, ty_37, ty_38, ty_39, ty_40, ty_41, ty_42, ty_43, ty_44, ty_45, ty_46, ty_47, ty_48, ty_49, ty_50, ty_51, ty_52, ty_53, ty_54, ty_55, ty_56, ty_57, ty_58, ty_59, ty_60, ty_61, ty_62, ty_63, ty_64, ty_65, ty_66, ty_67, ty_68, ty_69, ty_70, ty_71, ty_72, ty_73, ty_74, ty_75, ty_76, ty_77, ty_78, pl_3_7, pl_3_12, pl_3_14, pl_3_15, pl_3_17, pl_4_12, pl_5_7, pl_6_16, pl_6_21, pl_7_3, pl_7_7, pl_8_5, pl_12_3, pl_13_1, pl_13_11, pl_15_6, pl_16_8, pl_17_4, pl_19_5, pl_19_12, pl_24_5, pl_24_12, pl_26_1, pl_27_2, pl_28_3, pl_30_3, pl_33_2, hty, hpl, Enc.enc, Ty.av, hl1, hl2, h1, h2, h3, AV.wk]
  have hle : k1.length = k2.length := by have := intBeq_iff.1 h3; omega
  simp [cdL_seq, cdL_region, cdL_drawn, cdL_cond, cdL_block, cdL_skip, cdL_label, cdL_exit, cdL_ret, endL, evSeq, evOne, evAct, evOp, opKind, evPure, evRead, evNew, evWrite, evSlice, natOf, optVal, readAt, AV.cells, wantedA, putTm, val, allVals, evBin, evInt, evStr, evAppend, denseFrom, sizesAre, onesIn, evPlan, recheck, AV.beq_refl, H.new, H.put, fillF, fillAt, allOne, AV.one, setArgs, evRes, resOf, ofVal, ofVal0, blt_dec, ble_dec, beq_dec, T.get_set_ite, T.get_e, isShift, ikBeq, ty_0, ty_1, ty_2, ty_3, ty_4, ty_5, ty_6, ty_7, ty_8, ty_9, ty_10, ty_11, ty_12, ty_13, ty_14, ty_15, ty_16, ty_17, ty_18, ty_19, ty_20, ty_21, ty_22, ty_23, ty_24, ty_25, ty_26, ty_27, ty_28, ty_29, ty_30, ty_31, ty_32, ty_33, ty_34, ty_35, ty_36, ty_37, ty_38, ty_39, ty_40, ty_41, ty_42, ty_43, ty_44, ty_45, ty_46, ty_47, ty_48, ty_49, ty_50, ty_51, ty_52, ty_53, ty_54, ty_55, ty_56, ty_57, ty_58, ty_59, ty_60, ty_61, ty_62, ty_63, ty_64, ty_65, ty_66, ty_67, ty_68, ty_69, ty_70, ty_71, ty_72, ty_73, ty_74, ty_75, ty_76, ty_77, ty_78, pl_3_7, pl_3_12, pl_3_14, pl_3_15, pl_3_17, pl_4_12, pl_5_7, pl_6_16, pl_6_21, pl_7_3, pl_7_7, pl_8_5, pl_12_3, pl_13_1, pl_13_11, pl_15_6, pl_16_8, pl_17_4, pl_19_5, pl_19_12, pl_24_5, pl_24_12, pl_26_1, pl_27_2, pl_28_3, pl_30_3, pl_33_2, hty, hpl, Enc.enc, Ty.av, hl1, hl2, h1, h2, h3]
  generalize hx : cdL E 15 46 (.loop b15_0) _ _ = x
  obtain ⟨tm', rfl, g⟩ := loop15 hty hpl (o1 := o1) (o2 := o2) (n1 := n1) (n2 := n2) (k1 := k1) (k2 := k2) (d := d) hf1.1 hle hf1.2.2 hf2.2.2 (by omega) hcall k1 k2 0 hx rfl rfl (Nat.zero_le _) (by simp [T.get_set_ite]) (by simp [T.get_set_ite]) (by simp [T.get_set_ite]) (by simp [T.get_set_ite]) (by simp [T.get_set_ite])
  cases hb : sameL k1 k2 with
  | true => simp [cdL_seq, cdL_region, cdL_drawn, cdL_cond, cdL_block, cdL_skip, cdL_label, cdL_exit, cdL_ret, endL, evSeq, evOne, evAct, evOp, opKind, evPure, evRead, evNew, evWrite, evSlice, natOf, optVal, readAt, AV.cells, wantedA, putTm, val, allVals, evBin, evInt, evStr, evAppend, denseFrom, sizesAre, onesIn, evPlan, recheck, AV.beq_refl, H.new, H.put, fillF, fillAt, allOne, AV.one, setArgs, evRes, resOf, ofVal, ofVal0, blt_dec, ble_dec, beq_dec, T.get_set_ite, T.get_e, isShift, ikBeq, ty_0, ty_1, ty_2, ty_3, ty_4, ty_5, ty_6, ty_7, ty_8, ty_9, ty_10, ty_11, ty_12, ty_13, ty_14, ty_15, ty_16, ty_17, ty_18, ty_19, ty_20, ty_21, ty_22, ty_23, ty_24, ty_25, ty_26, ty_27, ty_28, ty_29, ty_30, ty_31, ty_32, ty_33, ty_34, ty_35, ty_36, ty_37, ty_38, ty_39, ty_40, ty_41, ty_42, ty_43, ty_44, ty_45, ty_46, ty_47, ty_48, ty_49, ty_50, ty_51, ty_52, ty_53, ty_54, ty_55, ty_56, ty_57, ty_58, ty_59, ty_60, ty_61, ty_62, ty_63, ty_64, ty_65, ty_66, ty_67, ty_68, ty_69, ty_70, ty_71, ty_72, ty_73, ty_74, ty_75, ty_76, ty_77, ty_78, pl_3_7, pl_3_12, pl_3_14, pl_3_15, pl_3_17, pl_4_12, pl_5_7, pl_6_16, pl_6_21, pl_7_3, pl_7_7, pl_8_5, pl_12_3, pl_13_1, pl_13_11, pl_15_6, pl_16_8, pl_17_4, pl_19_5, pl_19_12, pl_24_5, pl_24_12, pl_26_1, pl_27_2, pl_28_3, pl_30_3, pl_33_2, hty, hpl, AV.wk]
  | false => simp [cdL_seq, cdL_region, cdL_drawn, cdL_cond, cdL_block, cdL_skip, cdL_label, cdL_exit, cdL_ret, endL, evSeq, evOne, evAct, evOp, opKind, evPure, evRead, evNew, evWrite, evSlice, natOf, optVal, readAt, AV.cells, wantedA, putTm, val, allVals, evBin, evInt, evStr, evAppend, denseFrom, sizesAre, onesIn, evPlan, recheck, AV.beq_refl, H.new, H.put, fillF, fillAt, allOne, AV.one, setArgs, evRes, resOf, ofVal, ofVal0, blt_dec, ble_dec, beq_dec, T.get_set_ite, T.get_e, isShift, ikBeq, ty_0, ty_1, ty_2, ty_3, ty_4, ty_5, ty_6, ty_7, ty_8, ty_9, ty_10, ty_11, ty_12, ty_13, ty_14, ty_15, ty_16, ty_17, ty_18, ty_19, ty_20, ty_21, ty_22, ty_23, ty_24, ty_25, ty_26, ty_27, ty_28, ty_29, ty_30, ty_31, ty_32, ty_33, ty_34, ty_35, ty_36, ty_37, ty_38, ty_39, ty_40, ty_41, ty_42, ty_43, ty_44, ty_45, ty_46, ty_47, ty_48, ty_49, ty_50, ty_51, ty_52, ty_53, ty_54, ty_55, ty_56, ty_57, ty_58, ty_59, ty_60, ty_61, ty_62, ty_63, ty_64, ty_65, ty_66, ty_67, ty_68, ty_69, ty_70, ty_71, ty_72, ty_73, ty_74, ty_75, ty_76, ty_77, ty_78, pl_3_7, pl_3_12, pl_3_14, pl_3_15, pl_3_17, pl_4_12, pl_5_7, pl_6_16, pl_6_21, pl_7_3, pl_7_7, pl_8_5, pl_12_3, pl_13_1, pl_13_11, pl_15_6, pl_16_8, pl_17_4, pl_19_5, pl_19_12, pl_24_5, pl_24_12, pl_26_1, pl_27_2, pl_28_3, pl_30_3, pl_33_2, hty, hpl, g hb, AV.wk]
noncomputable abbrev p15 := primVal (ofRel (Rel2 (fun a b => fit a ∧ fit b) sameF))
theorem p15_ok : PrimOk Try.prog 15 p15 := prim_union pd15_ok (union2 fun a b h => ⟨dep a, Nat.le_refl _, h⟩)
end Go.Proofs.Ytiifjjcoepgobaa.Env
