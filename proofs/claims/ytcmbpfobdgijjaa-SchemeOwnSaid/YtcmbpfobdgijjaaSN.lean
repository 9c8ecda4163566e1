/- The reference's Free as a primitive. -/
import Derived.Test.YtcmbpfobdgijjaaSJ
set_option autoImplicit false
set_option maxRecDepth 100000
set_option linter.unusedSimpArgs false
set_option linter.unusedVariables false
set_option linter.unusedSectionVars false
namespace Go.Proofs.Ytcmbpfobdgijjaa.Env
open Go.Ev

theorem stepR_len (own : List Int) : ∀ (l out : List Int), (l.foldl (stepR own) out).length ≤ out.length + l.length
  | [], out => by simp
  | v :: l, out => by
    have := stepR_len own l (stepR own out v)
    have h2 : (stepR own out v).length ≤ out.length + 1 := by
      unfold stepR
      cases (hasI own v || hasI out v) with
      | true => simp
      | false => simp [insF_len]
    simp only [List.foldl_cons, List.length_cons]
    omega
def tsz : List Bd → Nat
  | [] => 0
  | b :: l => size b.ty + tsz l
theorem loop10_0 {E : Env} (hty : E.ty = env.ty) (hpl : E.plan = env.plan) (h11 : E.prim 11 = some p22) (h22 : E.prim 22 = some p23) {bs : List Bd} (hl : bs.length ≤ 9223372036854775806) (hf : ∀ b ∈ bs, b.fit ∧ size b.ty ≤ 1000000) :
    ∀ (l : List Bd) (i : Nat) (w : Own) (out : List Int) {tm : Tm} {h : H} {x : Option (Ex × Tm × H)}, cdL E 10 79 (.loop b10_0) tm h = x → l = bs.drop i → i ≤ bs.length → out.length + tsz l ≤ 1000000 → RowE 3 1 h w (ints out) →
    tm.get 0 = some (.sl .no (bds bs)) → tm.get 3 = some (.sl w (ints out)) → tm.get 4 = some (.int .i64 ↑i) →
    ∃ tm' h' w', x = some (.exit 0, tm', h') ∧ tm'.get 3 = some (.sl w' (ints (freeR l out))) ∧ RowE 3 1 h' w' (ints (freeR l out))
  | [], i, w, out, tm, h, x, hx, hd, hi, hlen, hr, g0, g3, g4 => by
    have hl' := dnil hd hi
    have hil := bds_len bs
    rw [hl'] at hil
    obtain ⟨R, hR, hx⟩ := loop_step hx
    rw [lb10_0] at hx
    simp only [codeAt, sub, Try.f10] at hx
    simp [cdL_seq, cdL_region, cdL_drawn, cdL_cond, cdL_block, cdL_skip, cdL_label, cdL_exit, cdL_ret, endL, evSeq, evOne, evAct, evOp, opKind, evPure, evRead, evNew, evWrite, evSlice, natOf, optVal, readAt, AV.cells, wantedA, putTm, val, allVals, evBin, evInt, evStr, evAppend, denseFrom, sizesAre, onesIn, evPlan, recheck, AV.beq_refl, H.new, H.put, fillF, fillAt, allOne, AV.one, setArgs, evRes, resOf, ofVal, ofVal0, blt_dec, ble_dec, beq_dec, T.get_set_ite, T.get_e, isShift, ikBeq, ty_0, ty_1, ty_2, ty_3, ty_4, ty_5, ty_6, ty_7, ty_8, ty_9, ty_10, ty_11, ty_12, ty_13, ty_14, ty_15, ty_16, ty_17, ty_18, ty_19, ty_20, ty_21, ty_22, ty_23, ty_24, ty_25, ty_26, ty_27, ty_28, ty_29, ty_30, ty_31, ty_32, ty_33, ty_34, ty_35, ty_36, ty_37, ty_38, ty_39, ty_40, ty_41, ty_42, ty_43, ty_44, ty_45, ty_46, ty_47, ty_48, ty_49, ty_50, ty_51, ty_52, ty_53, ty_54, ty_55, ty_56, ty_57, ty_58, ty_59, ty_60, ty_61, ty_62, ty_63, ty_64, ty_65, ty_66, ty_67, ty_68, ty_69, ty_70, ty_71, ty_72, ty_73, ty_74, ty_75, ty_76, ty_77, ty_78, ty_79, ty_80, ty_81, ty_82, ty_83, ty_84, ty_85, ty_86, ty_87, ty_88, ty_89, ty_90, ty_91, ty_92, ty_93, ty_94, ty_95, ty_96, ty_97, ty_98, ty_99, pl_3_10, pl_4_3, pl_5_3, pl_10_9, pl_10_11, pl_10_13, pl_13_1, pl_13_7, pl_16_6, pl_18_6, pl_19_1, pl_27_6, pl_27_11, pl_33_17, pl_35_4, pl_35_6, pl_36_10, pl_37_10, pl_39_3, pl_40_5, pl_40_11, pl_40_16, pl_40_17, pl_40_22, pl_40_23, pl_42_1, pl_42_3, pl_42_5, pl_42_8, pl_43_1, pl_43_3, pl_43_5, pl_43_8, pl_43_10, pl_43_13, pl_43_15, pl_43_18, pl_43_21, pl_46_3, pl_46_5, pl_46_6, pl_48_1, pl_48_2, pl_48_3, pl_52_1, lp, hty, hpl, g0, g3, g4, hil, ltI_f] at hx
    exact ⟨_, h, w, hx.symm, by simp [T.get_set_ite, g3, freeR], hr⟩
  | b :: l, i, w, out, tm, h, x, hx, hd, hi, hlen, hr, g0, g3, g4 => by
    obtain ⟨hlt, hc, hd'⟩ := dcons hd
    have hil := bds_len bs
    have hat := bds_get hc
    have hlt' := ltI_t hlt
    have hw := wr_succ (i := i) (by omega)
    obtain ⟨hbf, hbs⟩ := hf b (List.mem_of_getElem? hc)
    simp only [tsz] at hlen
    have hvl := varsF_len b.ty []
    simp only [List.length_nil, Nat.zero_add] at hvl
    have k22 := fun h => prim1_call (E := E) (f := 22) (a := b.ty) (F := fun t => varsF t []) (q := qv) h22 (Enc.bare 0 b.ty) ⟨hbf.2, hbs⟩ h
    simp only [show ∀ t : Ty, (Enc.enc t : AV) = t.av from fun _ => rfl, show ∀ L : List Int, (Enc.enc L : AV) = .sl .no (ints L) from fun _ => rfl] at k22
    obtain ⟨a0, a1, a2, ha⟩ := av_cells b.ty
    simp only [Bd.av] at hat
    rw [ha] at hat k22
    simp only [AV.cells] at hat
    obtain ⟨R, hR, hx⟩ := loop_step hx
    rw [lb10_0] at hx
    simp only [codeAt, sub, Try.f10] at hx
    simp [cdL_seq, cdL_region, cdL_drawn, cdL_cond, cdL_block, cdL_skip, cdL_label, cdL_exit, cdL_ret, endL, evSeq, evOne, evAct, evOp, opKind, evPure, evRead, evNew, evWrite, evSlice, natOf, optVal, readAt, AV.cells, wantedA, putTm, val, allVals, evBin, evInt, evStr, evAppend, denseFrom, sizesAre, onesIn, evPlan, recheck, AV.beq_refl, H.new, H.put, fillF, fillAt, allOne, AV.one, setArgs, evRes, resOf, ofVal, ofVal0, blt_dec, ble_dec, beq_dec, T.get_set_ite, T.get_e, isShift, ikBeq, ty_0, ty_1, ty_2, ty_3, ty_4, ty_5, ty_6, ty_7, ty_8, ty_9, ty_10, ty_11, ty_12, ty_13, ty_14, ty_15, ty_16, ty_17, ty_18, ty_19, ty_20, ty_21, ty_22, ty_23, ty_24, ty_25, ty_26, ty_27, ty_28, ty_29, ty_30, ty_31, ty_32, ty_33, ty_34, ty_35, ty_36, ty_37, ty_38, ty_39, ty_40, ty_41, ty_42, ty_43, ty_44, ty_45, ty_46, ty_47, ty_48, ty_49, ty_50, ty_51, ty_52, ty_53, ty_54, ty_55, ty_56, ty_57, ty_58, ty_59, ty_60, ty_61, ty_62, ty_63, ty_64, ty_65, ty_66, ty_67, ty_68, ty_69, ty_70, ty_71, ty_72, ty_73, ty_74, ty_75, ty_76, ty_77, ty_78, ty_79, ty_80, ty_81, ty_82, ty_83, ty_84, ty_85, ty_86, ty_87, ty_88, ty_89, ty_90, ty_91, ty_92, ty_93, ty_94, ty_95, ty_96, ty_97, ty_98, ty_99, pl_3_10, pl_4_3, pl_5_3, pl_10_9, pl_10_11, pl_10_13, pl_13_1, pl_13_7, pl_16_6, pl_18_6, pl_19_1, pl_27_6, pl_27_11, pl_33_17, pl_35_4, pl_35_6, pl_36_10, pl_37_10, pl_39_3, pl_40_5, pl_40_11, pl_40_16, pl_40_17, pl_40_22, pl_40_23, pl_42_1, pl_42_3, pl_42_5, pl_42_8, pl_43_1, pl_43_3, pl_43_5, pl_43_8, pl_43_10, pl_43_13, pl_43_15, pl_43_18, pl_43_21, pl_46_3, pl_46_5, pl_46_6, pl_48_1, pl_48_2, pl_48_3, pl_52_1, lp, hty, hpl, g0, g3, g4, hil, hlt', hat, k22] at hx
    generalize hy : cdL E 10 79 (.loop b10_1) _ _ = y at hx
    obtain ⟨tm2, h2, w2, rfl, q0, q3, q4, q5⟩ := loop10_1 hty hpl h11 hc (V := varsF b.ty []) (by omega) hbf.1 (varsF b.ty []) 0 w out hy rfl (Nat.zero_le _) (by omega) hr (by simp [T.get_set_ite, g0]) (by simp [T.get_set_ite, g3]) (by simp [T.get_set_ite, g4]) (by simp [T.get_set_ite]) (by simp [T.get_set_ite])
    simp [cdL_seq, cdL_region, cdL_drawn, cdL_cond, cdL_block, cdL_skip, cdL_label, cdL_exit, cdL_ret, endL, evSeq, evOne, evAct, evOp, opKind, evPure, evRead, evNew, evWrite, evSlice, natOf, optVal, readAt, AV.cells, wantedA, putTm, val, allVals, evBin, evInt, evStr, evAppend, denseFrom, sizesAre, onesIn, evPlan, recheck, AV.beq_refl, H.new, H.put, fillF, fillAt, allOne, AV.one, setArgs, evRes, resOf, ofVal, ofVal0, blt_dec, ble_dec, beq_dec, T.get_set_ite, T.get_e, isShift, ikBeq, ty_0, ty_1, ty_2, ty_3, ty_4, ty_5, ty_6, ty_7, ty_8, ty_9, ty_10, ty_11, ty_12, ty_13, ty_14, ty_15, ty_16, ty_17, ty_18, ty_19, ty_20, ty_21, ty_22, ty_23, ty_24, ty_25, ty_26, ty_27, ty_28, ty_29, ty_30, ty_31, ty_32, ty_33, ty_34, ty_35, ty_36, ty_37, ty_38, ty_39, ty_40, ty_41, ty_42, ty_43, ty_44, ty_45, ty_46, ty_47, ty_48, ty_49, ty_50, ty_51, ty_52, ty_53, ty_54, ty_55, ty_56, ty_57, ty_58, ty_59, ty_60, ty_61, ty_62, ty_63, ty_64, ty_65, ty_66, ty_67, ty_68, ty_69, ty_70, ty_71, ty_72, ty_73, ty_74, ty_75, ty_76, ty_77, ty_78, ty_79, ty_80, ty_81, ty_82, ty_83, ty_84, ty_85, ty_86, ty_87, ty_88, ty_89, ty_90, ty_91, ty_92, ty_93, ty_94, ty_95, ty_96, ty_97, ty_98, ty_99, pl_3_10, pl_4_3, pl_5_3, pl_10_9, pl_10_11, pl_10_13, pl_13_1, pl_13_7, pl_16_6, pl_18_6, pl_19_1, pl_27_6, pl_27_11, pl_33_17, pl_35_4, pl_35_6, pl_36_10, pl_37_10, pl_39_3, pl_40_5, pl_40_11, pl_40_16, pl_40_17, pl_40_22, pl_40_23, pl_42_1, pl_42_3, pl_42_5, pl_42_8, pl_43_1, pl_43_3, pl_43_5, pl_43_8, pl_43_10, pl_43_13, pl_43_15, pl_43_18, pl_43_21, pl_46_3, pl_46_5, pl_46_6, pl_48_1, pl_48_2, pl_48_3, pl_52_1, hty, hpl, q4, hw] at hx
    rw [hR] at hx
    have hsl := stepR_len b.vars (varsF b.ty []) out
    exact loop10_0 hty hpl h11 h22 hl hf l (i + 1) w2 (freeR1 b out) hx hd' hlt (by unfold freeR1; omega) q5 (by simp [T.get_set_ite, q0]) (by simp [T.get_set_ite, freeR1, q3]) (by simp [T.get_set_ite])
theorem freeR_run {E : Env} (hty : E.ty = env.ty) (hpl : E.plan = env.plan) (hp : E.prim 10 = none) (hfn : E.fns 10 = some Try.f10) (h11 : E.prim 11 = some p22) (h22 : E.prim 22 = some p23) {bs : List Bd} (hl : bs.length ≤ 9223372036854775806) (hf : ∀ b ∈ bs, b.fit ∧ size b.ty ≤ 1000000) (hs : tsz bs ≤ 1000000) (h : H) :
    ∃ w h', evL E 10 [.sl .no (bds bs)] h = some (.sl w (ints (freeR bs [])), h') := by
  rw [evL_fn E hp hfn body10 _ _ rfl]
  simp only [codeAt, sub, Try.f10]
  simp [cdL_seq, cdL_region, cdL_drawn, cdL_cond, cdL_block, cdL_skip, cdL_label, cdL_exit, cdL_ret, endL, evSeq, evOne, evAct, evOp, opKind, evPure, evRead, evNew, evWrite, evSlice, natOf, optVal, readAt, AV.cells, wantedA, putTm, val, allVals, evBin, evInt, evStr, evAppend, denseFrom, sizesAre, onesIn, evPlan, recheck, AV.beq_refl, H.new, H.put, fillF, fillAt, allOne, AV.one, setArgs, evRes, resOf, ofVal, ofVal0, blt_dec, ble_dec, beq_dec, T.get_set_ite, T.get_e, isShift, ikBeq, ty_0, ty_1, ty_2, ty_3, ty_4, ty_5, ty_6, ty_7, ty_8, ty_9, ty_10, ty_11, ty_12, ty_13, ty_14, ty_15, ty_16, ty_17, ty_18, ty_19, ty_20, ty_21, ty_22, ty_23, ty_24, ty_25, ty_26, ty_27, ty_28, ty_29, ty_30, ty_31, ty_32, ty_33, ty_34, ty_35, ty_36, ty_37, ty_38, ty_39, ty_40, ty_41, ty_42, ty_43, ty_44, ty_45, ty_46, ty_47, ty_48, ty_49, ty_50, ty_51, ty_52, ty_53, ty_54, ty_55, ty_56, ty_57, ty_58, ty_59, ty_60, ty_61, ty_62, ty_63, ty_64, ty_65, ty_66, ty_67, ty_68, ty_69, ty_70, ty_71, ty_72, ty_73, ty_74, ty_75, ty_76, ty_77, ty_78, ty_79, ty_80, ty_81, ty_82, ty_83, ty_84, ty_85, ty_86, ty_87, ty_88, ty_89, ty_90, ty_91, ty_92, ty_93, ty_94, ty_95, ty_96, ty_97, ty_98, ty_99, pl_3_10, pl_4_3, pl_5_3, pl_10_9, pl_10_11, pl_10_13, pl_13_1, pl_13_7, pl_16_6, pl_18_6, pl_19_1, pl_27_6, pl_27_11, pl_33_17, pl_35_4, pl_35_6, pl_36_10, pl_37_10, pl_39_3, pl_40_5, pl_40_11, pl_40_16, pl_40_17, pl_40_22, pl_40_23, pl_42_1, pl_42_3, pl_42_5, pl_42_8, pl_43_1, pl_43_3, pl_43_5, pl_43_8, pl_43_10, pl_43_13, pl_43_15, pl_43_18, pl_43_21, pl_46_3, pl_46_5, pl_46_6, pl_48_1, pl_48_2, pl_48_3, pl_52_1, hty, hpl]
  generalize hx : cdL E 10 79 (.loop b10_0) _ _ = x
  obtain ⟨tm', h', w', rfl, q3, _⟩ := loop10_0 hty hpl h11 h22 hl hf bs 0 .full [] hx rfl (Nat.zero_le _) (by simpa using hs) (.inl ⟨rfl, rfl⟩) (by simp [T.get_set_ite]) (by simp [T.get_set_ite, ints]) (by simp [T.get_set_ite])
  simp [cdL_seq, cdL_region, cdL_drawn, cdL_cond, cdL_block, cdL_skip, cdL_label, cdL_exit, cdL_ret, endL, evSeq, evOne, evAct, evOp, opKind, evPure, evRead, evNew, evWrite, evSlice, natOf, optVal, readAt, AV.cells, wantedA, putTm, val, allVals, evBin, evInt, evStr, evAppend, denseFrom, sizesAre, onesIn, evPlan, recheck, AV.beq_refl, H.new, H.put, fillF, fillAt, allOne, AV.one, setArgs, evRes, resOf, ofVal, ofVal0, blt_dec, ble_dec, beq_dec, T.get_set_ite, T.get_e, isShift, ikBeq, ty_0, ty_1, ty_2, ty_3, ty_4, ty_5, ty_6, ty_7, ty_8, ty_9, ty_10, ty_11, ty_12, ty_13, ty_14, ty_15, ty_16, ty_17, ty_18, ty_19, ty_20, ty_21, ty_22, ty_23, ty_24, ty_25, ty_26, ty_27, ty_28, ty_29, ty_30, ty_31, ty_32, ty_33, ty_34, ty_35, ty_36, ty_37, ty_38, ty_39, ty_40, ty_41, ty_42, ty_43, ty_44, ty_45, ty_46, ty_47, ty_48, ty_49, ty_50, ty_51, ty_52, ty_53, ty_54, ty_55, ty_56, ty_57, ty_58, ty_59, ty_60, ty_61, ty_62, ty_63, ty_64, ty_65, ty_66, ty_67, ty_68, ty_69, ty_70, ty_71, ty_72, ty_73, ty_74, ty_75, ty_76, ty_77, ty_78, ty_79, ty_80, ty_81, ty_82, ty_83, ty_84, ty_85, ty_86, ty_87, ty_88, ty_89, ty_90, ty_91, ty_92, ty_93, ty_94, ty_95, ty_96, ty_97, ty_98, ty_99, pl_3_10, pl_4_3, pl_5_3, pl_10_9, pl_10_11, pl_10_13, pl_13_1, pl_13_7, pl_16_6, pl_18_6, pl_19_1, pl_27_6, pl_27_11, pl_33_17, pl_35_4, pl_35_6, pl_36_10, pl_37_10, pl_39_3, pl_40_5, pl_40_11, pl_40_16, pl_40_17, pl_40_22, pl_40_23, pl_42_1, pl_42_3, pl_42_5, pl_42_8, pl_43_1, pl_43_3, pl_43_5, pl_43_8, pl_43_10, pl_43_13, pl_43_15, pl_43_18, pl_43_21, pl_46_3, pl_46_5, pl_46_6, pl_48_1, pl_48_2, pl_48_3, pl_52_1, hty, hpl, q3]
end Go.Proofs.Ytcmbpfobdgijjaa.Env
/- Bounds as arguments of primitives; the reference's Free. -/
set_option autoImplicit false
set_option maxRecDepth 100000
set_option linter.unusedSimpArgs false
set_option linter.unusedVariables false
set_option linter.unusedSectionVars false
namespace Go.Proofs.Ytcmbpfobdgijjaa.Env
open Go.Ev

theorem ty_agg (t : Ty) : t.av = .agg t.av.cells := by cases t; rfl
theorem bd_inj {x : AV} {a b : Bd} (h1 : x.wk 0 a.av) (h2 : x.wk 0 b.av) : a = b := by
  obtain ⟨an, av, at'⟩ := a
  obtain ⟨bn, bv, bt⟩ := b
  simp only [Bd.av] at h1 h2
  cases x with
  | ptr a => cases a <;> simp [AV.wk] at h1
  | map a => cases a <;> simp [AV.wk] at h1
  | agg cs =>
    rw [wk_agg] at h1 h2
    match cs, h1, h2 with
    | [], h1, _ => exact absurd (wks_iff.1 h1).1 (by simp)
    | [_], h1, _ => exact absurd (wks_iff.1 h1).1 (by simp)
    | c0 :: c1 :: cs, h1, h2 =>
      simp only [wks_cons] at h1 h2
      have e0 := Enc.inj (α := Str) (a := ⟨an⟩) (b := ⟨bn⟩) h1.1 h2.1
      have e1 := Enc.inj (α := List Int) (a := av) (b := bv) h1.2.1 h2.2.1
      have e2 : at' = bt := Ty.av_inj (x := .agg cs) (by rw [ty_agg at', wk_agg]; exact h1.2.2) (by rw [ty_agg bt, wk_agg]; exact h2.2.2)
      cases e0
      rw [e1, e2]
  | _ => simp [AV.wk] at h1
theorem bd_bare (n : Nat) (b : Bd) : b.av.wk n b.av := by
  simp only [Bd.av]
  rw [wk_agg, wks_cons, wks_cons]
  have h := Ty.av_bare n b.ty
  rw [ty_agg b.ty, wk_agg] at h
  exact ⟨by simp [AV.wk], Enc.bare n b.vars, h⟩
instance : Enc Bd where
  enc := Bd.av
  inj := bd_inj
  bare := bd_bare
theorem bds_enc (l : List Bd) : (Enc.enc l : AV) = .sl .no (bds l) := rfl
def qEnv (bs : List Bd) : Prop := bs.length ≤ 9223372036854775806 ∧ (∀ b ∈ bs, b.fit ∧ size b.ty ≤ 1000000) ∧ tsz bs ≤ 1000000
noncomputable abbrev pRFree := primVal (ofRel (Rel1 qEnv (fun bs => freeR bs [])))
noncomputable def envD : Env := addPrim (addPrim env 11 p22) 22 p23
theorem envD_ok : EnvOk Try.prog envD := addPrim_ok (addPrim_ok env_ok p22_ok) p23_ok
theorem pRFree_ok : PrimOk Try.prog 10 pRFree := prim1_ok envD_ok (fn := Try.f10) (by kernel_rfl) body10 (by kernel_rfl) fun bs hq => by
  obtain ⟨w, h', e⟩ := freeR_run (E := envD) rfl rfl (by kernel_rfl) (by kernel_rfl) (by kernel_rfl) (by kernel_rfl) hq.1 hq.2.1 hq.2.2 ⟨.e, 0⟩
  refine ⟨_, h', bodyL_of (by kernel_rfl) (by kernel_rfl) body10 rfl e, ?_⟩
  rw [show (Enc.enc (freeR bs []) : AV) = .sl .no (ints (freeR bs [])) from rfl]
  simp only [wk_agg, wk_tup, wk_sl, wks_cons, wks_nil, wk_int, wk_str, wk_bool, own_no]
  exact ⟨trivial, wks_map_refl 0 (freeR bs [])⟩
theorem cRFree {E : Env} (hp : E.prim 10 = some pRFree) {x : AV} {bs : List Bd} (hx : x.wk 0 (.sl .no (bds bs))) (hq : qEnv bs) (h : H) : evL E 10 [x] h = some (.sl .no (ints (freeR bs [])), h) :=
  prim1_call (a := bs) (F := fun bs => freeR bs []) (q := qEnv) hp hx hq h
end Go.Proofs.Ytcmbpfobdgijjaa.Env
/- The reference's General. -/
set_option autoImplicit false
set_option maxRecDepth 100000
set_option linter.unusedSimpArgs false
set_option linter.unusedVariables false
set_option linter.unusedSectionVars false
namespace Go.Proofs.Ytcmbpfobdgijjaa.Env
open Go.Ev

theorem app_intsF {h : H} {w : Own} {xs ys : List Int} (hl : xs.length + ys.length ≤ 1000000) (r : RowE 3 1 h w (ints xs)) :
    ∃ w' h', evAppend 3 1 8 h (.sl w (ints xs)) (ints ys) = some (.sl w' (ints (xs ++ ys)), h') ∧ RowE 3 1 h' w' (ints (xs ++ ys)) ∧ NewO h w w' ∧ h.nx ≤ h'.nx ∧ ∀ j, j < h.nx → w ≠ .ch j → h'.t.get j = h.t.get j := by
  have l1 := ints_len xs
  have l2 := ints_len ys
  have s1 := ints_sizes xs
  have s2 := ints_sizes ys
  have eap : ints xs ++ ints ys = ints (xs ++ ys) := by simp [ints]
  have o2 : onesIn (ints ys) = true := by
    clear l2 s2 eap hl
    induction ys with
    | nil => rfl
    | cons y l ih => simp only [ints, List.map_cons, onesIn, Bool.and_eq_true] at ih ⊢; exact ⟨rfl, ih⟩
  have hby : (xs.length + ys.length) * 8 ≤ 140737488355328 := by omega
  have hc : (Nat.blt 0 1 && (Nat.blt 0 8 && (sizesAre 1 (ints ys) && (onesIn (ints ys) && (sizesAre 1 (ints xs) && Nat.ble (((ints xs).length + (ints ys).length) * 8) 140737488355328))))) = true := by
    rw [s1, s2, o2, l1, l2]
    have : Nat.ble ((xs.length + ys.length) * 8) 140737488355328 = true := by rw [Nat.ble_eq]; exact hby
    rw [this]; rfl
  unfold evAppend
  simp only [hc, cond_true]
  cases ys with
  | nil => exact ⟨w, h, by simp [ints], by simpa using r, .inl rfl, Nat.le_refl _, fun _ _ _ => rfl⟩
  | cons y l =>
    have e : ints (y :: l) = .int .i64 y :: ints l := rfl
    rcases r with ⟨rfl, e0⟩ | ⟨id, rfl, hg, hi⟩
    · refine ⟨.ch h.nx, h.new (.chain (xs ++ y :: l).length 3 1), ?_, .inr ⟨_, rfl, by simp [H.new, T.get_set_ite, ints], by simp [H.new]⟩, .inr ⟨_, rfl, Nat.le_refl _⟩, by simp [H.new], fun j hj _ => by simp only [H.new, T.get_set_ite]; rw [if_neg (by omega)]⟩
      rw [e] at eap l2 ⊢
      simp only [eap, l1, l2, List.length_append]
    · rw [l1] at hg
      have hb : Nat.beq xs.length (ints xs).length = true := by rw [l1]; exact Nat.beq_refl _
      refine ⟨.ch id, h.put id (.chain (xs ++ y :: l).length 3 1), ?_, .inr ⟨_, rfl, by simp [H.put, T.get_set_ite, ints], by simpa [H.put] using hi⟩, .inl rfl, by simp [H.put], fun j hj hne => by
        have : j ≠ id := fun e => hne (by rw [e])
        simp only [H.put, T.get_set_ite]; rw [if_neg this]⟩
      rw [e] at eap l2 ⊢
      simp only [hg, hb, eap, l1, l2, List.length_append, Nat.beq_refl, Bool.and_self, cond_true]
def genF (own V : List Int) : List Int := V.filter fun v => !hasI own v
noncomputable def b13_0 : Code := loopOf Try.f13 0
theorem body13 : Try.f13.body = some (.seq (codeAt Try.f13 [0]) (.seq (codeAt Try.f13 [1, 0]) (.seq (codeAt Try.f13 [1, 1, 0]) (.seq (.seq (codeAt Try.f13 [1, 1, 1, 0, 0]) (.block 0 (.loop b13_0))) (codeAt Try.f13 [1, 1, 1, 1]))))) := rfl
theorem loop13 {E : Env} (hty : E.ty = env.ty) (hpl : E.plan = env.plan) (h11 : E.prim 11 = some p22) {own V : List Int} {p b4 : Nat} {cs cs4 : List AV} (hcs : cs.length = 3) (hV : V.length ≤ 1000000) (ho : own.length ≤ 9223372036854775807) (h4p : b4 ≠ p) :
    ∀ (l : List Int) (j : Nat) (w : Own) (done : List Int) {tm : Tm} {h : H} {x : Option (Ex × Tm × H)}, cdL E 13 38 (.loop b13_0) tm h = x → l = V.drop j → j ≤ V.length → done.length + l.length ≤ 1000000 → RowE 3 1 h w (ints done) → h.t.get p = some (.cells (.sl w (ints done) :: cs)) → p < h.nx → h.t.get b4 = some (.cells cs4) → b4 < h.nx →
    tm.get 4 = some (.ptr (some (b4, 0))) → tm.get 5 = some (.sl .no (ints own)) → tm.get 6 = some (.sl .no (ints V)) → tm.get 7 = some (.ptr (some (p, 0))) → tm.get 8 = some (.int .i64 ↑j) →
    ∃ tm' h' w', x = some (.exit 0, tm', h') ∧ tm'.get 4 = some (.ptr (some (b4, 0))) ∧ tm'.get 7 = some (.ptr (some (p, 0))) ∧ h'.t.get p = some (.cells (.sl w' (ints (done ++ genF own l)) :: cs)) ∧ h'.t.get b4 = some (.cells cs4)
  | [], j, w, done, tm, h, x, hx, hd, hj, hlen, hr, hz, hp, hz4, hp4, g4, g5, g6, g7, g8 => by
    have hl := dnil hd hj
    have hil := ints_len V
    rw [hl] at hil
    obtain ⟨R, hR, hx⟩ := loop_step hx
    simp [b13_0, loopOf, Try.f13, loops, cdL_seq, cdL_region, cdL_drawn, cdL_cond, cdL_block, cdL_skip, cdL_label, cdL_exit, cdL_ret, endL, evSeq, evOne, evAct, evOp, opKind, evPure, evRead, evNew, evWrite, evSlice, natOf, optVal, readAt, AV.cells, wantedA, putTm, val, allVals, evBin, evInt, evStr, evAppend, denseFrom, sizesAre, onesIn, evPlan, recheck, AV.beq_refl, H.new, H.put, fillF, fillAt, allOne, AV.one, setArgs, evRes, resOf, ofVal, ofVal0, blt_dec, ble_dec, beq_dec, T.get_set_ite, T.get_e, isShift, ikBeq, ty_0, ty_1, ty_2, ty_3, ty_4, ty_5, ty_6, ty_7, ty_8, ty_9, ty_10, ty_11, ty_12, ty_13, ty_14, ty_15, ty_16, ty_17, ty_18, ty_19, ty_20, ty_21, ty_22, ty_23, ty_24, ty_25, ty_26, ty_27, ty_28, ty_29, ty_30, ty_31, ty_32, ty_33, ty_34, ty_35, ty_36, ty_37, ty_38, ty_39, ty_40, ty_41, ty_42, ty_43, ty_44, ty_45, ty_46, ty_47, ty_48, ty_49, ty_50, ty_51, ty_52, ty_53, ty_54, ty_55, ty_56, ty_57, ty_58, ty_59, ty_60, ty_61, ty_62, ty_63, ty_64, ty_65, ty_66, ty_67, ty_68, ty_69, ty_70, ty_71, ty_72, ty_73, ty_74, ty_75, ty_76, ty_77, ty_78, ty_79, ty_80, ty_81, ty_82, ty_83, ty_84, ty_85, ty_86, ty_87, ty_88, ty_89, ty_90, ty_91, ty_92, ty_93, ty_94, ty_95, ty_96, ty_97, ty_98, ty_99, pl_3_10, pl_4_3, pl_5_3, pl_10_9, pl_10_11, pl_10_13, pl_13_1, pl_13_7, pl_16_6, pl_18_6, pl_19_1, pl_27_6, pl_27_11, pl_33_17, pl_35_4, pl_35_6, pl_36_10, pl_37_10, pl_39_3, pl_40_5, pl_40_11, pl_40_16, pl_40_17, pl_40_22, pl_40_23, pl_42_1, pl_42_3, pl_42_5, pl_42_8, pl_43_1, pl_43_3, pl_43_5, pl_43_8, pl_43_10, pl_43_13, pl_43_15, pl_43_18, pl_43_21, pl_46_3, pl_46_5, pl_46_6, pl_48_1, pl_48_2, pl_48_3, pl_52_1, lp, hty, hpl, g4, g5, g6, g7, g8, hil, ltI_f] at hx
    exact ⟨_, h, w, hx.symm, by simp [T.get_set_ite, g4], by simp [T.get_set_ite, g7], by simpa [genF] using hz, hz4⟩
  | v :: l, j, w, done, tm, h, x, hx, hd, hj, hlen, hr, hz, hp, hz4, hp4, g4, g5, g6, g7, g8 => by
    obtain ⟨hlt, hc, hd'⟩ := dcons hd
    have hil := ints_len V
    have hic := ints_get hc
    have hlt' := ltI_t hlt
    have hw := wr_succ (i := j) (by omega)
    simp only [List.length_cons] at hlen
    have k1 := fun h => c22 (E := E) h11 .no own v ho h
    simp only [show ∀ L : List Int, L.map (AV.int .i64) = ints L from fun _ => rfl] at k1
    obtain ⟨c0, c1, c2, rfl⟩ : ∃ c0 c1 c2, cs = [c0, c1, c2] := by
      match cs, hcs with
      | [c0, c1, c2], _ => exact ⟨c0, c1, c2, rfl⟩
    obtain ⟨R, hR, hx⟩ := loop_step hx
    cases h1 : hasI own v with
    | true =>
      have e : genF own (v :: l) = genF own l := by simp [genF, h1]
      simp [b13_0, loopOf, Try.f13, loops, cdL_seq, cdL_region, cdL_drawn, cdL_cond, cdL_block, cdL_skip, cdL_label, cdL_exit, cdL_ret, endL, evSeq, evOne, evAct, evOp, opKind, evPure, evRead, evNew, evWrite, evSlice, natOf, optVal, readAt, AV.cells, wantedA, putTm, val, allVals, evBin, evInt, evStr, evAppend, denseFrom, sizesAre, onesIn, evPlan, recheck, AV.beq_refl, H.new, H.put, fillF, fillAt, allOne, AV.one, setArgs, evRes, resOf, ofVal, ofVal0, blt_dec, ble_dec, beq_dec, T.get_set_ite, T.get_e, isShift, ikBeq, ty_0, ty_1, ty_2, ty_3, ty_4, ty_5, ty_6, ty_7, ty_8, ty_9, ty_10, ty_11, ty_12, ty_13, ty_14, ty_15, ty_16, ty_17, ty_18, ty_19, ty_20, ty_21, ty_22, ty_23, ty_24, ty_25, ty_26, ty_27, ty_28, ty_29, ty_30, ty_31, ty_32, ty_33, ty_34, ty_35, ty_36, ty_37, ty_38, ty_39, ty_40, ty_41, ty_42, ty_43, ty_44, ty_45, ty_46, ty_47, ty_48, ty_49, ty_50, ty_51, ty_52, ty_53, ty_54, ty_55, ty_56, ty_57, ty_58, ty_59, ty_60, ty_61, ty_62, ty_63, ty_64, ty_65, ty_66, ty_67, ty_68, ty_69, ty_70, ty_71, ty_72, ty_73, ty_74, ty_75, ty_76, ty_77, ty_78, ty_79, ty_80, ty_81, ty_82, ty_83, ty_84, ty_85, ty_86, ty_87, ty_88, ty_89, ty_90, ty_91, ty_92, ty_93, ty_94, ty_95, ty_96, ty_97, ty_98, ty_99, pl_3_10, pl_4_3, pl_5_3, pl_10_9, pl_10_11, pl_10_13, pl_13_1, pl_13_7, pl_16_6, pl_18_6, pl_19_1, pl_27_6, pl_27_11, pl_33_17, pl_35_4, pl_35_6, pl_36_10, pl_37_10, pl_39_3, pl_40_5, pl_40_11, pl_40_16, pl_40_17, pl_40_22, pl_40_23, pl_42_1, pl_42_3, pl_42_5, pl_42_8, pl_43_1, pl_43_3, pl_43_5, pl_43_8, pl_43_10, pl_43_13, pl_43_15, pl_43_18, pl_43_21, pl_46_3, pl_46_5, pl_46_6, pl_48_1, pl_48_2, pl_48_3, pl_52_1, lp, hty, hpl, g4, g5, g6, g7, g8, hil, hlt', hic, k1, h1, hw] at hx
      rw [hR] at hx
      rw [e]
      exact loop13 hty hpl h11 (p := p) (b4 := b4) (cs4 := cs4) rfl hV ho h4p l (j + 1) w done hx hd' hlt (by omega) hr hz hp hz4 hp4 (by simp [T.get_set_ite, g4]) (by simp [T.get_set_ite, g5]) (by simp [T.get_set_ite, g6]) (by simp [T.get_set_ite, g7]) (by simp [T.get_set_ite])
    | false =>
      have e : genF own (v :: l) = v :: genF own l := by simp [genF, h1]
      obtain ⟨w2, h2, e2, r2, n2, x2, f2⟩ := app_intsF (ys := [v]) (by simp; omega) hr
      have hwp : ∀ {q : Nat} {cs : List AV}, h.t.get q = some (.cells cs) → w ≠ .ch q := fun hq => by
        rcases hr with ⟨rfl, _⟩ | ⟨id, rfl, hg, _⟩
        · simp
        · rintro ⟨⟩; rw [hq] at hg; cases hg
      have hz2 : h2.t.get p = some (.cells (.sl w (ints done) :: [c0, c1, c2])) := by rw [f2 p hp (hwp hz)]; exact hz
      have hz42 : h2.t.get b4 = some (.cells cs4) := by rw [f2 b4 hp4 (hwp hz4)]; exact hz4
      have zv : ints [v] = [.int .i64 v] := rfl
      rw [zv] at e2
      simp [b13_0, loopOf, Try.f13, loops, cdL_seq, cdL_region, cdL_drawn, cdL_cond, cdL_block, cdL_skip, cdL_label, cdL_exit, cdL_ret, endL, evSeq, evOne, evAct, evOp, opKind, evPure, evRead, evNew, evWrite, evSlice, natOf, optVal, readAt, AV.cells, wantedA, putTm, val, allVals, evBin, evInt, evStr, evAppend, denseFrom, sizesAre, onesIn, evPlan, recheck, AV.beq_refl, H.new, H.put, fillF, fillAt, allOne, AV.one, setArgs, evRes, resOf, ofVal, ofVal0, blt_dec, ble_dec, beq_dec, T.get_set_ite, T.get_e, isShift, ikBeq, ty_0, ty_1, ty_2, ty_3, ty_4, ty_5, ty_6, ty_7, ty_8, ty_9, ty_10, ty_11, ty_12, ty_13, ty_14, ty_15, ty_16, ty_17, ty_18, ty_19, ty_20, ty_21, ty_22, ty_23, ty_24, ty_25, ty_26, ty_27, ty_28, ty_29, ty_30, ty_31, ty_32, ty_33, ty_34, ty_35, ty_36, ty_37, ty_38, ty_39, ty_40, ty_41, ty_42, ty_43, ty_44, ty_45, ty_46, ty_47, ty_48, ty_49, ty_50, ty_51, ty_52, ty_53, ty_54, ty_55, ty_56, ty_57, ty_58, ty_59, ty_60, ty_61, ty_62, ty_63, ty_64, ty_65, ty_66, ty_67, ty_68, ty_69, ty_70, ty_71, ty_72, ty_73, ty_74, ty_75, ty_76, ty_77, ty_78, ty_79, ty_80, ty_81, ty_82, ty_83, ty_84, ty_85, ty_86, ty_87, ty_88, ty_89, ty_90, ty_91, ty_92, ty_93, ty_94, ty_95, ty_96, ty_97, ty_98, ty_99, pl_3_10, pl_4_3, pl_5_3, pl_10_9, pl_10_11, pl_10_13, pl_13_1, pl_13_7, pl_16_6, pl_18_6, pl_19_1, pl_27_6, pl_27_11, pl_33_17, pl_35_4, pl_35_6, pl_36_10, pl_37_10, pl_39_3, pl_40_5, pl_40_11, pl_40_16, pl_40_17, pl_40_22, pl_40_23, pl_42_1, pl_42_3, pl_42_5, pl_42_8, pl_43_1, pl_43_3, pl_43_5, pl_43_8, pl_43_10, pl_43_13, pl_43_15, pl_43_18, pl_43_21, pl_46_3, pl_46_5, pl_46_6, pl_48_1, pl_48_2, pl_48_3, pl_52_1, lp, hty, hpl, g4, g5, g6, g7, g8, hil, hlt', hic, k1, h1, hw, hz, hz2, e2, -evAppend] at hx
      rw [hR] at hx
      have hpx : RowE 3 1 ⟨h2.t.set p (.cells [.sl w2 (ints (done ++ [v])), c0, c1, c2]), h2.nx⟩ w2 (ints (done ++ [v])) := by
        rcases r2 with e | ⟨id, e, hg, hi⟩
        · exact .inl e
        · refine .inr ⟨id, e, ?_, hi⟩
          have : id ≠ p := by rintro rfl; rw [hz2] at hg; cases hg
          simp only [T.get_set_ite]; rw [if_neg this]; exact hg
      obtain ⟨tm', h', w', q1, q2, q3, q4, q5⟩ := loop13 hty hpl h11 (p := p) (b4 := b4) (cs4 := cs4) (cs := [c0, c1, c2]) rfl hV ho h4p l (j + 1) w2 (done ++ [v]) hx hd' hlt (by simp; omega) hpx (by simp [T.get_set_ite]) (by simp; omega) (by simp [T.get_set_ite, h4p, hz42]) (by simp; omega) (by simp [T.get_set_ite, g4]) (by simp [T.get_set_ite, g5]) (by simp [T.get_set_ite, g6]) (by simp [T.get_set_ite, g7]) (by simp [T.get_set_ite])
      rw [e]
      exact ⟨tm', h', w', q1, q2, q3, by simpa using q4, q5⟩
end Go.Proofs.Ytcmbpfobdgijjaa.Env
/- The reference's General as a primitive. -/
set_option autoImplicit false
set_option maxRecDepth 100000
set_option linter.unusedSimpArgs false
set_option linter.unusedVariables false
set_option linter.unusedSectionVars false
namespace Go.Proofs.Ytcmbpfobdgijjaa.Env
open Go.Ev

structure Sc where
  vars : List Int
  ty : Ty
def Sc.av (b : Sc) : AV := scAV b.vars b.ty
theorem sc_inj {x : AV} {a b : Sc} (h1 : x.wk 0 a.av) (h2 : x.wk 0 b.av) : a = b := by
  obtain ⟨av, at'⟩ := a
  obtain ⟨bv, bt⟩ := b
  simp only [Sc.av, scAV] at h1 h2
  cases x with
  | ptr a => cases a <;> simp [AV.wk] at h1
  | map a => cases a <;> simp [AV.wk] at h1
  | agg cs =>
    rw [wk_agg] at h1 h2
    match cs, h1, h2 with
    | [], h1, _ => exact absurd (wks_iff.1 h1).1 (by simp)
    | c1 :: cs, h1, h2 =>
      simp only [wks_cons] at h1 h2
      have e1 := Enc.inj (α := List Int) (a := av) (b := bv) h1.1 h2.1
      have e2 : at' = bt := Ty.av_inj (x := .agg cs) (by rw [ty_agg at', wk_agg]; exact h1.2) (by rw [ty_agg bt, wk_agg]; exact h2.2)
      rw [e1, e2]
  | _ => simp [AV.wk] at h1
theorem sc_bare (n : Nat) (b : Sc) : b.av.wk n b.av := by
  simp only [Sc.av, scAV]
  rw [wk_agg, wks_cons]
  have h := Ty.av_bare n b.ty
  rw [ty_agg b.ty, wk_agg] at h
  exact ⟨Enc.bare n b.vars, h⟩
instance : Enc Sc where
  enc := Sc.av
  inj := sc_inj
  bare := sc_bare
def qGen (bs : List Bd) (t : Ty) : Prop := qEnv bs ∧ qv t ∧ (freeR bs []).length ≤ 9223372036854775807
noncomputable abbrev pRGen := primVal (ofRel (Rel2 qGen (fun bs t => Sc.mk (genF (freeR bs []) (varsF t [])) t)))
noncomputable def envF : Env := addPrim envD 10 pRFree
theorem envF_ok : EnvOk Try.prog envF := addPrim_ok envD_ok pRFree_ok
theorem pRGen_ok : PrimOk Try.prog 13 pRGen := prim2_ok envF_ok (fn := Try.f13) (by kernel_rfl) body13 (by kernel_rfl) fun bs t hq => by
  obtain ⟨hqe, hqt, hfl⟩ := hq
  have hty : envF.ty = env.ty := rfl
  have hpl : envF.plan = env.plan := rfl
  have k10 := fun h => cRFree (E := envF) (x := .sl .no (bds bs)) (by kernel_rfl) (by rw [← bds_enc]; exact Enc.bare 0 bs) hqe h
  have k22 := fun h => prim1_call (E := envF) (f := 22) (a := t) (F := fun t => varsF t []) (q := qv) (by kernel_rfl) (Enc.bare 0 t) hqt h
  have hvl := varsF_len t []
  have hsz := hqt.2
  simp only [List.length_nil, Nat.zero_add] at hvl
  have hb := Ty.av_bare 0 t
  have hb2 := wks_map_refl 0 (genF (freeR bs []) (varsF t []))
  rw [show (Enc.enc t : AV) = t.av from rfl] at k22 ⊢
  rw [show (Enc.enc (varsF t []) : AV) = .sl .no (ints (varsF t [])) from rfl] at k22
  rw [show (Enc.enc bs : AV) = .sl .no (bds bs) from rfl, show (Enc.enc (Sc.mk (genF (freeR bs []) (varsF t [])) t) : AV) = scAV (genF (freeR bs []) (varsF t [])) t from rfl]
  obtain ⟨t0, t1, t2, ht⟩ := av_cells t
  have hL := fun (x : Option (Ex × Tm × H)) tm h => loop13 (E := envF) hty hpl (by kernel_rfl) (own := freeR bs []) (V := varsF t []) (p := 2) (b4 := 1) (cs := t.av.cells) (cs4 := [.sl .full [], .str [], .int .i64 0, .sl .full []]) (by rw [ht]; rfl) (by omega) hfl (by omega) (varsF t []) 0 .full [] (x := x) (tm := tm) (h := h)
  unfold scAV
  rw [ht] at k22 hb hL ⊢
  simp only [AV.cells] at hL ⊢
  unfold bodyL
  simp only [codeAt, sub, Try.f13]
  simp [cdL_seq, cdL_region, cdL_drawn, cdL_cond, cdL_block, cdL_skip, cdL_label, cdL_exit, cdL_ret, endL, evSeq, evOne, evAct, evOp, opKind, evPure, evRead, evNew, evWrite, evSlice, natOf, optVal, readAt, AV.cells, wantedA, putTm, val, allVals, evBin, evInt, evStr, evAppend, denseFrom, sizesAre, onesIn, evPlan, recheck, AV.beq_refl, H.new, H.put, fillF, fillAt, allOne, AV.one, setArgs, evRes, resOf, ofVal, ofVal0, blt_dec, ble_dec, beq_dec, T.get_set_ite, T.get_e, isShift, ikBeq, ty_0, ty_1, ty_2, ty_3, ty_4, ty_5, ty_6, ty_7, ty_8, ty_9, ty_10, ty_11, ty_12, ty_13, ty_14, ty_15, ty_16, ty_17, ty_18, ty_19, ty_20, ty_21, ty_22, ty_23, ty_24, ty_25, ty_26, ty_27, ty_28, ty_29, ty_30, ty_31, ty_32, ty_33, ty_34, ty_35, ty_36, ty_37, ty_38, ty_39, ty_40, ty_41, ty_42, ty_43, ty_44, ty_45, ty_46, ty_47, ty_48, ty_49, ty_50, ty_51, ty_52, ty_53, ty_54, ty_55, ty_56, ty_57, ty_58, ty_59, ty_60, ty_61, ty_62, ty_63, ty_64, ty_65, ty_66, ty_67, ty_68, ty_69, ty_70, ty_71, ty_72, ty_73, ty_74, ty_75, ty_76, ty_77, ty_78, ty_79, ty_80, ty_81, ty_82, ty_83, ty_84, ty_85, ty_86, ty_87, ty_88, ty_89, ty_90, ty_91, ty_92, ty_93, ty_94, ty_95, ty_96, ty_97, ty_98, ty_99, pl_3_10, pl_4_3, pl_5_3, pl_10_9, pl_10_11, pl_10_13, pl_13_1, pl_13_7, pl_16_6, pl_18_6, pl_19_1, pl_27_6, pl_27_11, pl_33_17, pl_35_4, pl_35_6, pl_36_10, pl_37_10, pl_39_3, pl_40_5, pl_40_11, pl_40_16, pl_40_17, pl_40_22, pl_40_23, pl_42_1, pl_42_3, pl_42_5, pl_42_8, pl_43_1, pl_43_3, pl_43_5, pl_43_8, pl_43_10, pl_43_13, pl_43_15, pl_43_18, pl_43_21, pl_46_3, pl_46_5, pl_46_6, pl_48_1, pl_48_2, pl_48_3, pl_52_1, hty, hpl, k10, k22]
  generalize hx : cdL envF 13 38 (.loop b13_0) _ _ = x
  obtain ⟨tm', h', w', rfl, q1, q2, q3, q4⟩ := hL x _ _ hx rfl (Nat.zero_le _) (by simp; omega) (.inl ⟨rfl, rfl⟩) (by simp [T.get_set_ite, ints]) (by simp) (by simp [T.get_set_ite]) (by simp) (by simp [T.get_set_ite]) (by simp [T.get_set_ite]) (by simp [T.get_set_ite]) (by simp [T.get_set_ite]) (by simp [T.get_set_ite])
  simp [cdL_seq, cdL_region, cdL_drawn, cdL_cond, cdL_block, cdL_skip, cdL_label, cdL_exit, cdL_ret, endL, evSeq, evOne, evAct, evOp, opKind, evPure, evRead, evNew, evWrite, evSlice, natOf, optVal, readAt, AV.cells, wantedA, putTm, val, allVals, evBin, evInt, evStr, evAppend, denseFrom, sizesAre, onesIn, evPlan, recheck, AV.beq_refl, H.new, H.put, fillF, fillAt, allOne, AV.one, setArgs, evRes, resOf, ofVal, ofVal0, blt_dec, ble_dec, beq_dec, T.get_set_ite, T.get_e, isShift, ikBeq, ty_0, ty_1, ty_2, ty_3, ty_4, ty_5, ty_6, ty_7, ty_8, ty_9, ty_10, ty_11, ty_12, ty_13, ty_14, ty_15, ty_16, ty_17, ty_18, ty_19, ty_20, ty_21, ty_22, ty_23, ty_24, ty_25, ty_26, ty_27, ty_28, ty_29, ty_30, ty_31, ty_32, ty_33, ty_34, ty_35, ty_36, ty_37, ty_38, ty_39, ty_40, ty_41, ty_42, ty_43, ty_44, ty_45, ty_46, ty_47, ty_48, ty_49, ty_50, ty_51, ty_52, ty_53, ty_54, ty_55, ty_56, ty_57, ty_58, ty_59, ty_60, ty_61, ty_62, ty_63, ty_64, ty_65, ty_66, ty_67, ty_68, ty_69, ty_70, ty_71, ty_72, ty_73, ty_74, ty_75, ty_76, ty_77, ty_78, ty_79, ty_80, ty_81, ty_82, ty_83, ty_84, ty_85, ty_86, ty_87, ty_88, ty_89, ty_90, ty_91, ty_92, ty_93, ty_94, ty_95, ty_96, ty_97, ty_98, ty_99, pl_3_10, pl_4_3, pl_5_3, pl_10_9, pl_10_11, pl_10_13, pl_13_1, pl_13_7, pl_16_6, pl_18_6, pl_19_1, pl_27_6, pl_27_11, pl_33_17, pl_35_4, pl_35_6, pl_36_10, pl_37_10, pl_39_3, pl_40_5, pl_40_11, pl_40_16, pl_40_17, pl_40_22, pl_40_23, pl_42_1, pl_42_3, pl_42_5, pl_42_8, pl_43_1, pl_43_3, pl_43_5, pl_43_8, pl_43_10, pl_43_13, pl_43_15, pl_43_18, pl_43_21, pl_46_3, pl_46_5, pl_46_6, pl_48_1, pl_48_2, pl_48_3, pl_52_1, hty, hpl, q1, q2, q3, q4]
  rw [wk_agg, wks_cons]
  rw [wk_agg] at hb
  refine ⟨?_, hb⟩
  rw [wk_sl]
  exact ⟨own_no, hb2⟩
end Go.Proofs.Ytcmbpfobdgijjaa.Env
