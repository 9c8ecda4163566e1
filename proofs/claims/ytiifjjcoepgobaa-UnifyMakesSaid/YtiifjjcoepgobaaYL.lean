/- The laws UnifyFresh and UnifyWithin, on the machine. -/
import Derived.Test.YtiifjjcoepgobaaYK
set_option autoImplicit false
set_option maxRecDepth 100000
set_option linter.unusedSimpArgs false
set_option linter.unusedVariables false
set_option linter.unusedSectionVars false
namespace Go.Proofs.Ytiifjjcoepgobaa.Env
open Go.Ev

/-! ### Plain -/
theorem kidsF_le (o : List Nat) : kidsF o ≤ 2 := by
  unfold kidsF
  cases (natsBeq o [105, 110, 116] || (natsBeq o [98, 111, 111, 108] || (natsBeq o [117, 110, 105, 116] || (natsBeq o [115, 116, 114, 105, 110, 103] || (natsBeq o [99, 101, 108, 108] || natsBeq o varS))))) <;>
    cases (natsBeq o [108, 105, 115, 116] || natsBeq o [114, 101, 102]) <;> cases (natsBeq o [112, 97, 105, 114] || natsBeq o [102, 117, 110]) <;> simp
theorem kidsF_var {o : List Nat} (h : natsBeq o varS = true) : kidsF o = 0 := by simp [kidsF, h]
mutual
theorem each_good : ∀ {t : Ty}, eachF t = true → good t
  | .mk o n ks, h => by
    simp only [eachF, Bool.and_eq_true] at h
    simp only [good]
    have h1 := intBeq_iff.1 h.1
    have h2 := kidsF_le o
    exact ⟨by omega, eachL_goods h.2.2.2⟩
theorem eachL_goods : ∀ {l : List Ty}, eachL l = true → goods l
  | [], _ => trivial
  | t :: l, h => by
    simp only [eachL, Bool.and_eq_true] at h
    exact ⟨each_good h.1, eachL_goods h.2⟩
end
theorem each_var {o : List Nat} {n : Int} {ks : List Ty} (h : eachF (.mk o n ks) = true) (hv : natsBeq o varS = true) : ks = [] := by
  simp only [eachF, Bool.and_eq_true] at h
  have h1 := intBeq_iff.1 h.1
  rw [kidsF_var hv] at h1
  exact List.eq_nil_of_length_eq_zero (by omega)
theorem each_kids {o : List Nat} {n : Int} {ks : List Ty} (h : eachF (.mk o n ks) = true) : eachL ks = true := by
  simp only [eachF, Bool.and_eq_true] at h
  exact h.2.2.2
mutual
def occF (n : Int) : Ty → Bool
  | .mk o v ks => bif natsBeq o varS then intBeq v n else occL n ks
def occL (n : Int) : List Ty → Bool
  | [] => false
  | t :: l => occF n t || occL n l
end
theorem hasI_add (L : List Int) (v n : Int) : hasI (L ++ [v]) n = (hasI L n || intBeq v n) := by simp [hasI]
theorem hasI_of {L : List Int} {v n : Int} (h : hasI L v = true) (hb : intBeq v n = true) : hasI L n = true := by
  rw [← intBeq_iff.1 hb]; exact h
mutual
theorem vars_occ (n : Int) : ∀ {t : Ty} (out : List Int), eachF t = true → hasI (varsF t out) n = (hasI out n || occF n t)
  | .mk o v ks, out, h => by
    simp only [varsF, occF]
    cases hv : natsBeq o varS with
    | true =>
      obtain rfl := each_var h hv
      simp only [varsL]
      cases ho : hasI out v with
      | true =>
        simp only [Bool.true_and, Bool.not_true, cond_false, cond_true]
        cases hb : intBeq v n with
        | false => simp
        | true => simp [hasI_of ho hb]
      | false => simp [hasI_add]
    | false =>
      simp only [Bool.false_and, cond_false]
      exact varsL_occ n out (each_kids h)
theorem varsL_occ (n : Int) : ∀ {l : List Ty} (out : List Int), eachL l = true → hasI (varsL l out) n = (hasI out n || occL n l)
  | [], out, _ => by simp [varsL, occL]
  | t :: l, out, h => by
    simp only [eachL, Bool.and_eq_true] at h
    simp only [varsL, occL]
    rw [varsL_occ n (varsF t out) h.2, vars_occ n out h.1, Bool.or_assoc]
end
theorem has_empty (n : Int) : ∀ (f : Nat) (t : Ty) (seen : List Int), dep t ≤ f → hasF f [] n seen t = some (occF n t, seen)
  | 0, t, seen, h => by have := dep_pos t; omega
  | f + 1, .mk o v ks, seen, h => by
    simp only [hasF, occF]
    simp only [dep] at h
    cases hv : natsBeq o varS with
    | true => simp [look]
    | false =>
      simp only [cond_false]
      have : ∀ (l : List Ty), deps l ≤ f → anyF (hasF f [] n) seen l = some (occL n l, seen) := by
        intro l
        induction l with
        | nil => intro _; rfl
        | cons t l ih =>
          intro hl
          simp only [deps] at hl
          simp only [anyF, occL, has_empty n f t seen (by omega)]
          cases occF n t with
          | true => simp
          | false => simpa using ih (by omega)
      exact this ks (by omega)
theorem of_empty : ∀ (f : Nat) (t : Ty), dep t < f → ofF f [] t = some t
  | 0, t, h => by omega
  | 1, t, h => by have := dep_pos t; omega
  | f + 2, .mk o v ks, h => by
    simp only [dep] at h
    have hh : headF (f + 1) [] (.mk o v ks) = some (.mk o v ks) := by
      simp only [headF, look]
      cases natsBeq o varS <;> rfl
    have hs : ofF (f + 2) [] (.mk o v ks) = match headF (f + 1) [] (.mk o v ks) with | none => none | some (.mk o n ks) => match all0 (ofF (f + 1) []) ks with | none => none | some us => some (.mk o n us) := rfl
    rw [hs, hh]
    simp only
    have : ∀ (l : List Ty), deps l < f + 1 → all0 (fun t => ofF (f + 1) [] t) l = some l := by
      intro l
      induction l with
      | nil => intro _; rfl
      | cons t l ih =>
        intro hl
        simp only [deps] at hl
        simp only [all0, of_empty (f + 1) t (by omega)]
        rw [ih (by omega)]
    have e := this ks (by omega)
    rw [show all0 (ofF (f + 1) []) ks = some ks from e]
theorem headF_empty (f : Nat) (t : Ty) : headF (f + 1) [] t = some t := by
  obtain ⟨o, v, ks⟩ := t
  simp only [headF, look]
  cases natsBeq o varS <;> rfl
theorem uni_same : ∀ (f : Nat) (t : Ty), dep t < f → uniF f [] t t = some (true, [])
  | 0, t, h => by omega
  | 1, t, h => by have := dep_pos t; omega
  | f + 2, .mk o v ks, h => by
    simp only [dep] at h
    simp only [uniF, headF_empty]
    have hn : intBeq v v = true := intBeq_iff.2 rfl
    have hl : intBeq ↑ks.length ↑ks.length = true := intBeq_iff.2 rfl
    have ho : natsBeq o o = true := natsBeq_iff.2 rfl
    cases hv : natsBeq o varS with
    | true => simp [hn]
    | false =>
      simp only [Bool.false_and, cond_false, ho, hl, cond_true]
      have : ∀ (l : List Ty), deps l < f + 1 → eqF (uniF (f + 1)) [] l l = some (true, []) := by
        intro l
        induction l with
        | nil => intro _; rfl
        | cons t l ih =>
          intro hl
          simp only [deps] at hl
          simp only [eqF, uni_same (f + 1) t (by omega)]
          exact ih (by omega)
      exact this ks (by omega)
theorem uni_within (n : Int) (t : Ty) : ∃ f sd, uniF f [] (.mk varS n []) t = some (!occF n t || natsBeq t.op varS, sd) := by
  obtain ⟨o, v, ks⟩ := t
  have hvv : natsBeq varS varS = true := natsBeq_iff.2 rfl
  refine ⟨dep (.mk o v ks) + 2, ?_⟩
  simp only [uniF, headF_empty, hvv, Bool.true_and, cond_true, Ty.op]
  cases hv : natsBeq o varS with
  | true =>
    cases hb : intBeq n v with
    | true => exact ⟨[], by simp⟩
    | false =>
      have e : occF n (.mk o v ks) = false := by simp [occF, hv, intBeq_comm v n, hb]
      refine ⟨[(n, .mk o v ks)], ?_⟩
      simp [saysF, has_empty n _ _ [] (Nat.le_succ (dep (.mk o v ks))), e]
  | false =>
    cases e : occF n (.mk o v ks) with
    | true => exact ⟨[], by simp [saysF, has_empty n _ _ [] (Nat.le_succ (dep (.mk o v ks))), e]⟩
    | false => exact ⟨[(n, .mk o v ks)], by simp [saysF, has_empty n _ _ [] (Nat.le_succ (dep (.mk o v ks))), e]⟩

/-! ### The machine with all of these -/
theorem known0 : resIs true (evFn env 200 14 [] ⟨.e, 0⟩) = true := by kernel_rfl
noncomputable def envL : Env := addPrim (addPrim (addPrim (addPrim (addPrim (addPrim (addPrim envA 9 p9) 10 p10) 12 p12) 14 (primBool true)) 15 p15) 16 p16) 23 p23
theorem envL_ok : EnvOk Try.prog envL := addPrim_ok (addPrim_ok (addPrim_ok (addPrim_ok (addPrim_ok (addPrim_ok (addPrim_ok envA_ok p9_ok) p10_ok) p12_ok) (primBool_ok env_ok known0)) p15_ok) p16_ok) p23_ok
theorem eLty : envL.ty = env.ty := rfl
theorem eLpl : envL.plan = env.plan := rfl
theorem cL10 (t : Ty) (hf : fit t) (h : H) : evL envL 10 [t.av] h = some (.bool (isF t), h) :=
  prim1_call (a := t) (F := isF) (q := fit) (by kernel_rfl) (Enc.bare 0 t) hf h
theorem cL14 (h : H) : evL envL 14 [] h = some (.bool true, h) := by
  rw [evL_prim envL (f := 14) (p := primBool true) (by kernel_rfl)]; rfl
theorem cL15 {x y : AV} {a b : Ty} (hx : x.wk 0 a.av) (hy : y.wk 0 b.av) (ha : fit a) (hb : fit b) (h : H) : evL envL 15 [x, y] h = some (.bool (sameF a b), h) :=
  prim2_call (a := a) (b := b) (F := sameF) (q := fun a b => fit a ∧ fit b) (by kernel_rfl) hx hy ⟨ha, hb⟩ h
theorem cL23 (t : Ty) (hf : fit t) (hs : size t ≤ 1000000) (h : H) : evL envL 23 [t.av] h = some (.sl .no (ints (varsF t [])), h) :=
  prim1_call (a := t) (F := fun t => varsF t []) (q := qv) (by kernel_rfl) (Enc.bare 0 t) ⟨hf, hs⟩ h
theorem new_run (h : H) : evL envL 11 [] h = some (.ptr (some (h.nx + 1, 0)), ⟨(h.t.set h.nx (.map [])).set (h.nx + 1) (.cells [.map (some h.nx), .int .i64 0]), h.nx + 1 + 1⟩) := by
  rw [evL_fn envL (fn := Try.f11) (by kernel_rfl) (by kernel_rfl) rfl _ _ rfl]
  simp only [Try.f11]
  simp [cdL_seq, cdL_region, cdL_drawn, cdL_cond, cdL_block, cdL_skip, cdL_label, cdL_exit, cdL_ret, endL, evSeq, evOne, evAct, evOp, opKind, evPure, evRead, evNew, evWrite, evSlice, natOf, optVal, readAt, AV.cells, wantedA, putTm, val, allVals, evBin, evInt, evStr, evAppend, denseFrom, sizesAre, onesIn, evPlan, recheck, AV.beq_refl, H.new, H.put, fillF, fillAt, allOne, AV.one, setArgs, evRes, resOf, ofVal, ofVal0, blt_dec, ble_dec, beq_dec, T.get_set_ite, T.get_e, isShift, ikBeq, ty_0, ty_1, ty_2, ty_3, ty_4, ty_5, ty_6, ty_7, ty_8, ty_9, ty_10, ty_11, ty_12, ty_13, ty_14, ty_15, ty_16, ty_17, ty_18, ty_19, ty_20, ty_21, ty_22, ty_23, ty_24, ty_25, ty_26, ty_27, ty_28, ty_29, ty_30, ty_31, ty_32, ty_33, ty_34, ty_35, ty_36, ty_37, ty_38, ty_39, ty_40, ty_41, ty_42, ty_43, ty_44, ty_45, ty_46, ty_47, ty_48, ty_49, ty_50, ty_51, ty_52, ty_53, ty_54, ty_55, ty_56, ty_57, ty_58, ty_59, ty_60, ty_61, ty_62, ty_63, ty_64, ty_65, ty_66, ty_67, ty_68, ty_69, ty_70, ty_71, ty_72, ty_73, ty_74, ty_75, ty_76, ty_77, ty_78, pl_3_7, pl_3_12, pl_3_14, pl_3_15, pl_3_17, pl_4_12, pl_5_7, pl_6_16, pl_6_21, pl_7_3, pl_7_7, pl_8_5, pl_12_3, pl_13_1, pl_13_11, pl_15_6, pl_16_8, pl_17_4, pl_19_5, pl_19_12, pl_24_5, pl_24_12, pl_26_1, pl_27_2, pl_28_3, pl_30_3, pl_33_2, eLty, eLpl]

/-! ### UnifyWithin -/
theorem law5 (n : Int) (t : Ty) (hf : fit t) : ∃ h', evL envL 5 [.int .i64 n, t.av] ⟨.e, 0⟩ = some (.bool true, h') := by
  have k9 := fun h => c9 (E := envL) (by kernel_rfl) t 100 hf (by omega) h
  have k10 := fun h => cL10 t hf h
  obtain ⟨a0, a1, a2, ha⟩ := av_cells t
  cases h1 : ltI n 0 with
  | true =>
    rw [ha] at k9 k10 ⊢
    rw [evL_fn envL (fn := Try.f5) (by kernel_rfl) (by kernel_rfl) rfl _ _ rfl]
    simp only [Try.f5]
    simp [cdL_seq, cdL_region, cdL_drawn, cdL_cond, cdL_block, cdL_skip, cdL_label, cdL_exit, cdL_ret, endL, evSeq, evOne, evAct, evOp, opKind, evPure, evRead, evNew, evWrite, evSlice, natOf, optVal, readAt, AV.cells, wantedA, putTm, val, allVals, evBin, evInt, evStr, evAppend, denseFrom, sizesAre, onesIn, evPlan, recheck, AV.beq_refl, H.new, H.put, fillF, fillAt, allOne, AV.one, setArgs, evRes, resOf, ofVal, ofVal0, blt_dec, ble_dec, beq_dec, T.get_set_ite, T.get_e, isShift, ikBeq, ty_0, ty_1, ty_2, ty_3, ty_4, ty_5, ty_6, ty_7, ty_8, ty_9, ty_10, ty_11, ty_12, ty_13, ty_14, ty_15, ty_16, ty_17, ty_18, ty_19, ty_20, ty_21, ty_22, ty_23, ty_24, ty_25, ty_26, ty_27, ty_28, ty_29, ty_30, ty_31, ty_32, ty_33, ty_34, ty_35, ty_36, ty_37, ty_38, ty_39, ty_40, ty_41, ty_42, ty_43, ty_44, ty_45, ty_46, ty_47, ty_48, ty_49, ty_50, ty_51, ty_52, ty_53, ty_54, ty_55, ty_56, ty_57, ty_58, ty_59, ty_60, ty_61, ty_62, ty_63, ty_64, ty_65, ty_66, ty_67, ty_68, ty_69, ty_70, ty_71, ty_72, ty_73, ty_74, ty_75, ty_76, ty_77, ty_78, pl_3_7, pl_3_12, pl_3_14, pl_3_15, pl_3_17, pl_4_12, pl_5_7, pl_6_16, pl_6_21, pl_7_3, pl_7_7, pl_8_5, pl_12_3, pl_13_1, pl_13_11, pl_15_6, pl_16_8, pl_17_4, pl_19_5, pl_19_12, pl_24_5, pl_24_12, pl_26_1, pl_27_2, pl_28_3, pl_30_3, pl_33_2, eLty, eLpl, h1]
  | false =>
    cases h2 : ltI 1000 n with
    | true =>
      rw [ha] at k9 k10 ⊢
      rw [evL_fn envL (fn := Try.f5) (by kernel_rfl) (by kernel_rfl) rfl _ _ rfl]
      simp only [Try.f5]
      simp [cdL_seq, cdL_region, cdL_drawn, cdL_cond, cdL_block, cdL_skip, cdL_label, cdL_exit, cdL_ret, endL, evSeq, evOne, evAct, evOp, opKind, evPure, evRead, evNew, evWrite, evSlice, natOf, optVal, readAt, AV.cells, wantedA, putTm, val, allVals, evBin, evInt, evStr, evAppend, denseFrom, sizesAre, onesIn, evPlan, recheck, AV.beq_refl, H.new, H.put, fillF, fillAt, allOne, AV.one, setArgs, evRes, resOf, ofVal, ofVal0, blt_dec, ble_dec, beq_dec, T.get_set_ite, T.get_e, isShift, ikBeq, ty_0, ty_1, ty_2, ty_3, ty_4, ty_5, ty_6, ty_7, ty_8, ty_9, ty_10, ty_11, ty_12, ty_13, ty_14, ty_15, ty_16, ty_17, ty_18, ty_19, ty_20, ty_21, ty_22, ty_23, ty_24, ty_25, ty_26, ty_27, ty_28, ty_29, ty_30, ty_31, ty_32, ty_33, ty_34, ty_35, ty_36, ty_37, ty_38, ty_39, ty_40, ty_41, ty_42, ty_43, ty_44, ty_45, ty_46, ty_47, ty_48, ty_49, ty_50, ty_51, ty_52, ty_53, ty_54, ty_55, ty_56, ty_57, ty_58, ty_59, ty_60, ty_61, ty_62, ty_63, ty_64, ty_65, ty_66, ty_67, ty_68, ty_69, ty_70, ty_71, ty_72, ty_73, ty_74, ty_75, ty_76, ty_77, ty_78, pl_3_7, pl_3_12, pl_3_14, pl_3_15, pl_3_17, pl_4_12, pl_5_7, pl_6_16, pl_6_21, pl_7_3, pl_7_7, pl_8_5, pl_12_3, pl_13_1, pl_13_11, pl_15_6, pl_16_8, pl_17_4, pl_19_5, pl_19_12, pl_24_5, pl_24_12, pl_26_1, pl_27_2, pl_28_3, pl_30_3, pl_33_2, eLty, eLpl, h1, h2]
    | false =>
      cases h3 : ltI 50 (szF t 100) with
      | true =>
        rw [ha] at k9 k10 ⊢
        rw [evL_fn envL (fn := Try.f5) (by kernel_rfl) (by kernel_rfl) rfl _ _ rfl]
        simp only [Try.f5]
        simp [cdL_seq, cdL_region, cdL_drawn, cdL_cond, cdL_block, cdL_skip, cdL_label, cdL_exit, cdL_ret, endL, evSeq, evOne, evAct, evOp, opKind, evPure, evRead, evNew, evWrite, evSlice, natOf, optVal, readAt, AV.cells, wantedA, putTm, val, allVals, evBin, evInt, evStr, evAppend, denseFrom, sizesAre, onesIn, evPlan, recheck, AV.beq_refl, H.new, H.put, fillF, fillAt, allOne, AV.one, setArgs, evRes, resOf, ofVal, ofVal0, blt_dec, ble_dec, beq_dec, T.get_set_ite, T.get_e, isShift, ikBeq, ty_0, ty_1, ty_2, ty_3, ty_4, ty_5, ty_6, ty_7, ty_8, ty_9, ty_10, ty_11, ty_12, ty_13, ty_14, ty_15, ty_16, ty_17, ty_18, ty_19, ty_20, ty_21, ty_22, ty_23, ty_24, ty_25, ty_26, ty_27, ty_28, ty_29, ty_30, ty_31, ty_32, ty_33, ty_34, ty_35, ty_36, ty_37, ty_38, ty_39, ty_40, ty_41, ty_42, ty_43, ty_44, ty_45, ty_46, ty_47, ty_48, ty_49, ty_50, ty_51, ty_52, ty_53, ty_54, ty_55, ty_56, ty_57, ty_58, ty_59, ty_60, ty_61, ty_62, ty_63, ty_64, ty_65, ty_66, ty_67, ty_68, ty_69, ty_70, ty_71, ty_72, ty_73, ty_74, ty_75, ty_76, ty_77, ty_78, pl_3_7, pl_3_12, pl_3_14, pl_3_15, pl_3_17, pl_4_12, pl_5_7, pl_6_16, pl_6_21, pl_7_3, pl_7_7, pl_8_5, pl_12_3, pl_13_1, pl_13_11, pl_15_6, pl_16_8, pl_17_4, pl_19_5, pl_19_12, pl_24_5, pl_24_12, pl_26_1, pl_27_2, pl_28_3, pl_30_3, pl_33_2, eLty, eLpl, h1, h2, k9, h3]
      | false =>
        cases h4 : isF t with
        | false =>
          rw [ha] at k9 k10 ⊢
          rw [evL_fn envL (fn := Try.f5) (by kernel_rfl) (by kernel_rfl) rfl _ _ rfl]
          simp only [Try.f5]
          simp [cdL_seq, cdL_region, cdL_drawn, cdL_cond, cdL_block, cdL_skip, cdL_label, cdL_exit, cdL_ret, endL, evSeq, evOne, evAct, evOp, opKind, evPure, evRead, evNew, evWrite, evSlice, natOf, optVal, readAt, AV.cells, wantedA, putTm, val, allVals, evBin, evInt, evStr, evAppend, denseFrom, sizesAre, onesIn, evPlan, recheck, AV.beq_refl, H.new, H.put, fillF, fillAt, allOne, AV.one, setArgs, evRes, resOf, ofVal, ofVal0, blt_dec, ble_dec, beq_dec, T.get_set_ite, T.get_e, isShift, ikBeq, ty_0, ty_1, ty_2, ty_3, ty_4, ty_5, ty_6, ty_7, ty_8, ty_9, ty_10, ty_11, ty_12, ty_13, ty_14, ty_15, ty_16, ty_17, ty_18, ty_19, ty_20, ty_21, ty_22, ty_23, ty_24, ty_25, ty_26, ty_27, ty_28, ty_29, ty_30, ty_31, ty_32, ty_33, ty_34, ty_35, ty_36, ty_37, ty_38, ty_39, ty_40, ty_41, ty_42, ty_43, ty_44, ty_45, ty_46, ty_47, ty_48, ty_49, ty_50, ty_51, ty_52, ty_53, ty_54, ty_55, ty_56, ty_57, ty_58, ty_59, ty_60, ty_61, ty_62, ty_63, ty_64, ty_65, ty_66, ty_67, ty_68, ty_69, ty_70, ty_71, ty_72, ty_73, ty_74, ty_75, ty_76, ty_77, ty_78, pl_3_7, pl_3_12, pl_3_14, pl_3_15, pl_3_17, pl_4_12, pl_5_7, pl_6_16, pl_6_21, pl_7_3, pl_7_7, pl_8_5, pl_12_3, pl_13_1, pl_13_11, pl_15_6, pl_16_8, pl_17_4, pl_19_5, pl_19_12, pl_24_5, pl_24_12, pl_26_1, pl_27_2, pl_28_3, pl_30_3, pl_33_2, eLty, eLpl, h1, h2, k9, h3, k10, h4]
        | true =>
          have hea : eachF t = true := by simp [isF] at h4; exact h4.2
          have hsz : size t ≤ 1000000 := by
            have : ¬ (50 : Int) < szF t 100 := by rw [ltI_eq] at h3; simpa using h3
            have := szF_size t 100 (by omega)
            omega
          have k23 := fun h => cL23 t hf hsz h
          have k22 := fun h => c22 (E := envL) (by kernel_rfl) .no (varsF t []) n (by have := varsF_len t []; simp at this; omega) h
          have k21 := fun h => c21 (E := envL) (by kernel_rfl) n h
          obtain ⟨f, sd, hu⟩ := uni_within n t
          have hocc := vars_occ n [] hea
          simp only [show hasI [] n = false from rfl, Bool.false_or] at hocc
          have k12 := c12 (E := envL) (s := 2) (m := 1) (nx := 0) (h := ⟨(((T.e.set 0 (.cells t.av.cells)).set 1 (.map [])).set 2 (.cells [.map (some 1), .int .i64 0])), 3⟩) (by kernel_rfl) (Ty.av_bare 0 (.mk varS n [])) (Ty.av_bare 0 t) (by simp [good, goods]) (each_good hea) ⟨by simp [T.get_set_ite], by simp [T.get_set_ite, esOf], by simp, by simp⟩ (fun p hp => by simp at hp) hu
          have hop : t.op = a0 := by cases t; simp [Ty.av] at ha; exact ha.1
          rw [hop] at k12
          rw [ha] at k9 k10 k12 k23 ⊢
          simp only [AV.cells, Ty.av, Ty.avs] at k12 k21
          rw [evL_fn envL (fn := Try.f5) (by kernel_rfl) (by kernel_rfl) rfl _ _ rfl]
          simp only [Try.f5]
          have hv : natsBeq a0 varS = natsBeq a0 [118, 97, 114] := rfl
          rw [hv] at k12
          rw [hocc] at k22
          unfold ints at k23
          cases ho : occF n t with
          | false =>
            rw [ho] at k12 k22
            simp at k12
            simp [cdL_seq, cdL_region, cdL_drawn, cdL_cond, cdL_block, cdL_skip, cdL_label, cdL_exit, cdL_ret, endL, evSeq, evOne, evAct, evOp, opKind, evPure, evRead, evNew, evWrite, evSlice, natOf, optVal, readAt, AV.cells, wantedA, putTm, val, allVals, evBin, evInt, evStr, evAppend, denseFrom, sizesAre, onesIn, evPlan, recheck, AV.beq_refl, H.new, H.put, fillF, fillAt, allOne, AV.one, setArgs, evRes, resOf, ofVal, ofVal0, blt_dec, ble_dec, beq_dec, T.get_set_ite, T.get_e, isShift, ikBeq, ty_0, ty_1, ty_2, ty_3, ty_4, ty_5, ty_6, ty_7, ty_8, ty_9, ty_10, ty_11, ty_12, ty_13, ty_14, ty_15, ty_16, ty_17, ty_18, ty_19, ty_20, ty_21, ty_22, ty_23, ty_24, ty_25, ty_26, ty_27, ty_28, ty_29, ty_30, ty_31, ty_32, ty_33, ty_34, ty_35, ty_36, ty_37, ty_38, ty_39, ty_40, ty_41, ty_42, ty_43, ty_44, ty_45, ty_46, ty_47, ty_48, ty_49, ty_50, ty_51, ty_52, ty_53, ty_54, ty_55, ty_56, ty_57, ty_58, ty_59, ty_60, ty_61, ty_62, ty_63, ty_64, ty_65, ty_66, ty_67, ty_68, ty_69, ty_70, ty_71, ty_72, ty_73, ty_74, ty_75, ty_76, ty_77, ty_78, pl_3_7, pl_3_12, pl_3_14, pl_3_15, pl_3_17, pl_4_12, pl_5_7, pl_6_16, pl_6_21, pl_7_3, pl_7_7, pl_8_5, pl_12_3, pl_13_1, pl_13_11, pl_15_6, pl_16_8, pl_17_4, pl_19_5, pl_19_12, pl_24_5, pl_24_12, pl_26_1, pl_27_2, pl_28_3, pl_30_3, pl_33_2, eLty, eLpl, h1, h2, k9, h3, k10, h4, new_run, evEq, k23, k22, k21, k12, cL14, bytesOf]
          | true =>
            rw [ho] at k12 k22
            simp at k12
            cases hb : natsBeq a0 [118, 97, 114] <;> rw [hb] at k12 <;>
              simp [cdL_seq, cdL_region, cdL_drawn, cdL_cond, cdL_block, cdL_skip, cdL_label, cdL_exit, cdL_ret, endL, evSeq, evOne, evAct, evOp, opKind, evPure, evRead, evNew, evWrite, evSlice, natOf, optVal, readAt, AV.cells, wantedA, putTm, val, allVals, evBin, evInt, evStr, evAppend, denseFrom, sizesAre, onesIn, evPlan, recheck, AV.beq_refl, H.new, H.put, fillF, fillAt, allOne, AV.one, setArgs, evRes, resOf, ofVal, ofVal0, blt_dec, ble_dec, beq_dec, T.get_set_ite, T.get_e, isShift, ikBeq, ty_0, ty_1, ty_2, ty_3, ty_4, ty_5, ty_6, ty_7, ty_8, ty_9, ty_10, ty_11, ty_12, ty_13, ty_14, ty_15, ty_16, ty_17, ty_18, ty_19, ty_20, ty_21, ty_22, ty_23, ty_24, ty_25, ty_26, ty_27, ty_28, ty_29, ty_30, ty_31, ty_32, ty_33, ty_34, ty_35, ty_36, ty_37, ty_38, ty_39, ty_40, ty_41, ty_42, ty_43, ty_44, ty_45, ty_46, ty_47, ty_48, ty_49, ty_50, ty_51, ty_52, ty_53, ty_54, ty_55, ty_56, ty_57, ty_58, ty_59, ty_60, ty_61, ty_62, ty_63, ty_64, ty_65, ty_66, ty_67, ty_68, ty_69, ty_70, ty_71, ty_72, ty_73, ty_74, ty_75, ty_76, ty_77, ty_78, pl_3_7, pl_3_12, pl_3_14, pl_3_15, pl_3_17, pl_4_12, pl_5_7, pl_6_16, pl_6_21, pl_7_3, pl_7_7, pl_8_5, pl_12_3, pl_13_1, pl_13_11, pl_15_6, pl_16_8, pl_17_4, pl_19_5, pl_19_12, pl_24_5, pl_24_12, pl_26_1, pl_27_2, pl_28_3, pl_30_3, pl_33_2, eLty, eLpl, h1, h2, k9, h3, k10, h4, new_run, evEq, k23, k22, k21, k12, cL14, bytesOf, hb]
end Go.Proofs.Ytiifjjcoepgobaa.Env
