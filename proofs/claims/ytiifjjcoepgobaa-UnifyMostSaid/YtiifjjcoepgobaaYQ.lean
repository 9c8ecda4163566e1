/- The law UnifyMost on the machine: the whole function. -/
import Derived.Test.YtiifjjcoepgobaaYP
set_option autoImplicit false
set_option maxRecDepth 100000
set_option linter.unusedSimpArgs false
set_option linter.unusedVariables false
set_option linter.unusedSectionVars false
namespace Go.Proofs.Ytiifjjcoepgobaa.Env
open Go.Ev

theorem okV_gnd {v : Ty} (h : okV v = true) : eachF v = true ∧ gndF v = true := by
  simp only [okV, Bool.and_eq_true, isF] at h
  have he : eachF v = true := by simp_all
  have hl := intBeq_iff.1 h.2.2
  refine ⟨he, ?_⟩
  rcases vars_none (t := v) (out := []) (by simp only [List.length_nil]; omega) he with q | ⟨n, q, _⟩
  · exact q
  · simp [hasI] at q
theorem most_plain {t : Ty} {bs : List Ty} (he : eachF t = true) (hok : ∀ v ∈ (List.range (varsF t []).length).map (tyAt bs), okV v = true) :
    let U := (List.range (varsF t []).length).map (tyAt bs)
    ∃ f g sd, uniF f [] t (putF t (varsF t []) U) = some (true, sd) ∧ ofF g sd t = some (putF t (varsF t []) U) ∧ goodS sd ∧ (∀ u ∈ U, good u) ∧
      ∀ (i : Nat) n u, (varsF t [])[i]? = some n → U[i]? = some u → ∃ f, ofF f sd (.mk varS n []) = some u := by
  intro U
  have hLU : (varsF t []).length ≤ U.length := by simp [U]
  have hgU : ∀ u ∈ U, gndF u = true := fun u hu => (okV_gnd (hok u hu)).2
  have hoU : ∀ u ∈ U, good u := fun u hu => each_good (okV_gnd (hok u hu)).1
  have hoc : ∀ n, hasI (varsF t []) n = occF n t := fun n => by rw [vars_occ n [] he]; simp [hasI]
  obtain ⟨f, sd, h1, h2, _, h4⟩ := uni_match hLU hgU t [] he (fun n h => by rw [hoc]; exact h) (fun n u h => by simp [look] at h)
  obtain ⟨g, hg⟩ := of_match hLU hgU h2 t he h4
  have hgt := each_good he
  refine ⟨f, g, sd, h1, hg, uniF_good h1 hgt (put_good hoU hgt) (fun p hp => by simp at hp), hoU, fun i n u hn hu => ?_⟩
  have hlk := lookP_at (vars_nodup t [] (by simp)) hn hu
  have : hasI (varsF t []) n = true := List.any_eq_true.2 ⟨n, List.mem_of_getElem? hn, intBeq_iff.2 rfl⟩
  rw [hoc] at this
  obtain ⟨u', hu'⟩ := Option.isSome_iff_exists.1 (h4 n this)
  have := h2 n u' hu'
  rw [hlk] at this
  obtain rfl := Option.some.inj this
  exact of_var hu' (hgU _ (List.mem_of_getElem? hu))
theorem law6 (t : Ty) (hf : fit t) (bs : List Ty) (hfs : fits bs) : ∃ h', evL envM 6 [t.av, .sl .no (Ty.avs bs)] ⟨.e, 0⟩ = some (.bool true, h') := by
  have k9 := fun h => c9 (E := envM) (by kernel_rfl) t 100 hf (by omega) h
  have k10 := fun h => cM10 t hf h
  have hbl := avs_len bs
  obtain ⟨a0, a1, a2, ha⟩ := av_cells t
  cases h1 : ltI 25 (szF t 100) with
  | true =>
    rw [ha] at k9 k10 ⊢
    rw [evL_fn envM (by kernel_rfl) (by kernel_rfl) body6 _ _ rfl]
    simp only [codeAt, sub, Try.f6]
    simp [cdL_seq, cdL_region, cdL_drawn, cdL_cond, cdL_block, cdL_skip, cdL_label, cdL_exit, cdL_ret, endL, evSeq, evOne, evAct, evOp, opKind, evPure, evRead, evNew, evWrite, evSlice, natOf, optVal, readAt, AV.cells, wantedA, putTm, val, allVals, evBin, evInt, evStr, evAppend, denseFrom, sizesAre, onesIn, evPlan, recheck, AV.beq_refl, H.new, H.put, fillF, fillAt, allOne, AV.one, setArgs, evRes, resOf, ofVal, ofVal0, blt_dec, ble_dec, beq_dec, T.get_set_ite, T.get_e, isShift, ikBeq, ty_0, ty_1, ty_2, ty_3, ty_4, ty_5, ty_6, ty_7, ty_8, ty_9, ty_10, ty_11, ty_12, ty_13, ty_14, ty_15, ty_16, ty_17, ty_18, ty_19, ty_20, ty_21, ty_22, ty_23, ty_24, ty_25, ty_26, ty_27, ty_28, ty_29, ty_30, ty_31, ty_32, ty_33, ty_34, ty_35, ty_36, ty_37, ty_38, ty_39, ty_40, ty_41, ty_42, ty_43, ty_44, ty_45, ty_46, ty_47, ty_48, ty_49, ty_50, ty_51, ty_52, ty_53, ty_54, ty_55, ty_56, ty_57, ty_58, ty_59, ty_60, ty_61, ty_62, ty_63, ty_64, ty_65, ty_66, ty_67, ty_68, ty_69, ty_70, ty_71, ty_72, ty_73, ty_74, ty_75, ty_76, ty_77, ty_78, pl_3_7, pl_3_12, pl_3_14, pl_3_15, pl_3_17, pl_4_12, pl_5_7, pl_6_16, pl_6_21, pl_7_3, pl_7_7, pl_8_5, pl_12_3, pl_13_1, pl_13_11, pl_15_6, pl_16_8, pl_17_4, pl_19_5, pl_19_12, pl_24_5, pl_24_12, pl_26_1, pl_27_2, pl_28_3, pl_30_3, pl_33_2, eMty, eMpl, k9, h1]
  | false =>
    cases h2 : isF t with
    | false =>
      rw [ha] at k9 k10 ⊢
      rw [evL_fn envM (by kernel_rfl) (by kernel_rfl) body6 _ _ rfl]
      simp only [codeAt, sub, Try.f6]
      simp [cdL_seq, cdL_region, cdL_drawn, cdL_cond, cdL_block, cdL_skip, cdL_label, cdL_exit, cdL_ret, endL, evSeq, evOne, evAct, evOp, opKind, evPure, evRead, evNew, evWrite, evSlice, natOf, optVal, readAt, AV.cells, wantedA, putTm, val, allVals, evBin, evInt, evStr, evAppend, denseFrom, sizesAre, onesIn, evPlan, recheck, AV.beq_refl, H.new, H.put, fillF, fillAt, allOne, AV.one, setArgs, evRes, resOf, ofVal, ofVal0, blt_dec, ble_dec, beq_dec, T.get_set_ite, T.get_e, isShift, ikBeq, ty_0, ty_1, ty_2, ty_3, ty_4, ty_5, ty_6, ty_7, ty_8, ty_9, ty_10, ty_11, ty_12, ty_13, ty_14, ty_15, ty_16, ty_17, ty_18, ty_19, ty_20, ty_21, ty_22, ty_23, ty_24, ty_25, ty_26, ty_27, ty_28, ty_29, ty_30, ty_31, ty_32, ty_33, ty_34, ty_35, ty_36, ty_37, ty_38, ty_39, ty_40, ty_41, ty_42, ty_43, ty_44, ty_45, ty_46, ty_47, ty_48, ty_49, ty_50, ty_51, ty_52, ty_53, ty_54, ty_55, ty_56, ty_57, ty_58, ty_59, ty_60, ty_61, ty_62, ty_63, ty_64, ty_65, ty_66, ty_67, ty_68, ty_69, ty_70, ty_71, ty_72, ty_73, ty_74, ty_75, ty_76, ty_77, ty_78, pl_3_7, pl_3_12, pl_3_14, pl_3_15, pl_3_17, pl_4_12, pl_5_7, pl_6_16, pl_6_21, pl_7_3, pl_7_7, pl_8_5, pl_12_3, pl_13_1, pl_13_11, pl_15_6, pl_16_8, pl_17_4, pl_19_5, pl_19_12, pl_24_5, pl_24_12, pl_26_1, pl_27_2, pl_28_3, pl_30_3, pl_33_2, eMty, eMpl, k9, k10, h1, h2]
    | true =>
      cases h3 : ltI 6 ↑bs.length with
      | true =>
        rw [ha] at k9 k10 ⊢
        rw [evL_fn envM (by kernel_rfl) (by kernel_rfl) body6 _ _ rfl]
        simp only [codeAt, sub, Try.f6]
        simp [cdL_seq, cdL_region, cdL_drawn, cdL_cond, cdL_block, cdL_skip, cdL_label, cdL_exit, cdL_ret, endL, evSeq, evOne, evAct, evOp, opKind, evPure, evRead, evNew, evWrite, evSlice, natOf, optVal, readAt, AV.cells, wantedA, putTm, val, allVals, evBin, evInt, evStr, evAppend, denseFrom, sizesAre, onesIn, evPlan, recheck, AV.beq_refl, H.new, H.put, fillF, fillAt, allOne, AV.one, setArgs, evRes, resOf, ofVal, ofVal0, blt_dec, ble_dec, beq_dec, T.get_set_ite, T.get_e, isShift, ikBeq, ty_0, ty_1, ty_2, ty_3, ty_4, ty_5, ty_6, ty_7, ty_8, ty_9, ty_10, ty_11, ty_12, ty_13, ty_14, ty_15, ty_16, ty_17, ty_18, ty_19, ty_20, ty_21, ty_22, ty_23, ty_24, ty_25, ty_26, ty_27, ty_28, ty_29, ty_30, ty_31, ty_32, ty_33, ty_34, ty_35, ty_36, ty_37, ty_38, ty_39, ty_40, ty_41, ty_42, ty_43, ty_44, ty_45, ty_46, ty_47, ty_48, ty_49, ty_50, ty_51, ty_52, ty_53, ty_54, ty_55, ty_56, ty_57, ty_58, ty_59, ty_60, ty_61, ty_62, ty_63, ty_64, ty_65, ty_66, ty_67, ty_68, ty_69, ty_70, ty_71, ty_72, ty_73, ty_74, ty_75, ty_76, ty_77, ty_78, pl_3_7, pl_3_12, pl_3_14, pl_3_15, pl_3_17, pl_4_12, pl_5_7, pl_6_16, pl_6_21, pl_7_3, pl_7_7, pl_8_5, pl_12_3, pl_13_1, pl_13_11, pl_15_6, pl_16_8, pl_17_4, pl_19_5, pl_19_12, pl_24_5, pl_24_12, pl_26_1, pl_27_2, pl_28_3, pl_30_3, pl_33_2, eMty, eMpl, k9, k10, h1, h2, hbl, h3]
      | false =>
        have hea : eachF t = true := by simp [isF] at h2; exact h2.2
        have hgt := each_good hea
        have hsz : size t ≤ 1000000 := by
          have : ¬ (25 : Int) < szF t 100 := by rw [ltI_eq] at h1; simpa using h1
          have := szF_size t 100 (by omega)
          omega
        have hb6 : bs.length ≤ 6 := by
          rw [ltI_eq] at h3
          simp at h3
          omega
        have hLn : (varsF t []).length ≤ 1000000 := by have := varsF_len t []; simp at this; omega
        have k23 := fun h => cM23 t hf hsz h
        obtain ⟨L, hLe⟩ : ∃ L, L = varsF t [] := ⟨_, rfl⟩
        have mp := most_plain (t := t) (bs := bs) hea
        rw [← hLe] at k23 hLn mp
        have hA := fun (x : Option (Ex × Tm × H)) tm h => loop6_0 (L := L) (bs := bs) (c := .cells t.av.cells) hLn hb6 hfs L 0 .full [] [] (tm := tm) (h := h) (x := x)
        have kt : (t.av).wk 0 t.av := Ty.av_bare 0 t
        have k12 := fun s m nx sd u h f g1 g2 g3 g4 => c12 (E := envM) (s := s) (m := m) (nx := nx) (sd := []) (sd' := sd) (ok := true) (h := h) (d := f) (by kernel_rfl) kt (Ty.av_bare 0 u) hgt g1 g2 g3 g4
        have k16 := fun s m nx sd u h f g2 g3 g4 => c16 (E := envM) (s := s) (m := m) (nx := nx) (sd := sd) (u := u) (h := h) (d := f) (by kernel_rfl) kt hgt g2 g3 g4
        have k24 := fun w els us h g1 g2 g3 => c24 (E := envM) (x := t.av) (y := .sl .no (ints L)) (z := .sl w els) (t := t) (l := L) (us := us) (by kernel_rfl) kt g1 g2 ⟨hgt, g3, hLn⟩ h
        rw [ha] at k9 k10 k23 k12 k16 k24 hA ⊢
        simp only [AV.cells] at hA
        rw [evL_fn envM (by kernel_rfl) (by kernel_rfl) body6 _ _ rfl]
        simp only [codeAt, sub, Try.f6]
        simp [cdL_seq, cdL_region, cdL_drawn, cdL_cond, cdL_block, cdL_skip, cdL_label, cdL_exit, cdL_ret, endL, evSeq, evOne, evAct, evOp, opKind, evPure, evRead, evNew, evWrite, evSlice, natOf, optVal, readAt, AV.cells, wantedA, putTm, val, allVals, evBin, evInt, evStr, evAppend, denseFrom, sizesAre, onesIn, evPlan, recheck, AV.beq_refl, H.new, H.put, fillF, fillAt, allOne, AV.one, setArgs, evRes, resOf, ofVal, ofVal0, blt_dec, ble_dec, beq_dec, T.get_set_ite, T.get_e, isShift, ikBeq, ty_0, ty_1, ty_2, ty_3, ty_4, ty_5, ty_6, ty_7, ty_8, ty_9, ty_10, ty_11, ty_12, ty_13, ty_14, ty_15, ty_16, ty_17, ty_18, ty_19, ty_20, ty_21, ty_22, ty_23, ty_24, ty_25, ty_26, ty_27, ty_28, ty_29, ty_30, ty_31, ty_32, ty_33, ty_34, ty_35, ty_36, ty_37, ty_38, ty_39, ty_40, ty_41, ty_42, ty_43, ty_44, ty_45, ty_46, ty_47, ty_48, ty_49, ty_50, ty_51, ty_52, ty_53, ty_54, ty_55, ty_56, ty_57, ty_58, ty_59, ty_60, ty_61, ty_62, ty_63, ty_64, ty_65, ty_66, ty_67, ty_68, ty_69, ty_70, ty_71, ty_72, ty_73, ty_74, ty_75, ty_76, ty_77, ty_78, pl_3_7, pl_3_12, pl_3_14, pl_3_15, pl_3_17, pl_4_12, pl_5_7, pl_6_16, pl_6_21, pl_7_3, pl_7_7, pl_8_5, pl_12_3, pl_13_1, pl_13_11, pl_15_6, pl_16_8, pl_17_4, pl_19_5, pl_19_12, pl_24_5, pl_24_12, pl_26_1, pl_27_2, pl_28_3, pl_30_3, pl_33_2, eMty, eMpl, k9, k10, k23, h1, h2, hbl, h3]
        generalize hx : cdL envM 6 102 (.loop b6_0) _ _ = x
        rcases hA x _ _ hx rfl (by omega) rfl rfl (fun v hv => by simp at hv) ⟨by simp [T.get_set_ite], by simp [T.get_set_ite], by simp [T.get_set_ite], by simp [T.get_set_ite], by simp [T.get_set_ite], by simp [T.get_set_ite], by simp, .inl ⟨rfl, rfl⟩, by simp, by simp [AV.wks, Ty.avs], rfl⟩ with ⟨tm', h', rfl, g4⟩ | ⟨tm', h', w, els, rfl, ⟨g1, g2, g5, g6, g7, z0, zn, r, w0, hw, hs⟩, hok⟩
        · simp [cdL_seq, cdL_region, cdL_drawn, cdL_cond, cdL_block, cdL_skip, cdL_label, cdL_exit, cdL_ret, endL, evSeq, evOne, evAct, evOp, opKind, evPure, evRead, evNew, evWrite, evSlice, natOf, optVal, readAt, AV.cells, wantedA, putTm, val, allVals, evBin, evInt, evStr, evAppend, denseFrom, sizesAre, onesIn, evPlan, recheck, AV.beq_refl, H.new, H.put, fillF, fillAt, allOne, AV.one, setArgs, evRes, resOf, ofVal, ofVal0, blt_dec, ble_dec, beq_dec, T.get_set_ite, T.get_e, isShift, ikBeq, ty_0, ty_1, ty_2, ty_3, ty_4, ty_5, ty_6, ty_7, ty_8, ty_9, ty_10, ty_11, ty_12, ty_13, ty_14, ty_15, ty_16, ty_17, ty_18, ty_19, ty_20, ty_21, ty_22, ty_23, ty_24, ty_25, ty_26, ty_27, ty_28, ty_29, ty_30, ty_31, ty_32, ty_33, ty_34, ty_35, ty_36, ty_37, ty_38, ty_39, ty_40, ty_41, ty_42, ty_43, ty_44, ty_45, ty_46, ty_47, ty_48, ty_49, ty_50, ty_51, ty_52, ty_53, ty_54, ty_55, ty_56, ty_57, ty_58, ty_59, ty_60, ty_61, ty_62, ty_63, ty_64, ty_65, ty_66, ty_67, ty_68, ty_69, ty_70, ty_71, ty_72, ty_73, ty_74, ty_75, ty_76, ty_77, ty_78, pl_3_7, pl_3_12, pl_3_14, pl_3_15, pl_3_17, pl_4_12, pl_5_7, pl_6_16, pl_6_21, pl_7_3, pl_7_7, pl_8_5, pl_12_3, pl_13_1, pl_13_11, pl_15_6, pl_16_8, pl_17_4, pl_19_5, pl_19_12, pl_24_5, pl_24_12, pl_26_1, pl_27_2, pl_28_3, pl_30_3, pl_33_2, g4]
        · obtain ⟨f, g, sd, m1, m2, m3, m4, m5⟩ := mp hok
          obtain ⟨U, hUe⟩ : ∃ U, U = (List.range L.length).map (tyAt bs) := ⟨_, rfl⟩
          rw [← hUe] at hw m1 m2 m4 m5
          have hUl : U.length = L.length := by rw [hUe]; simp
          have hfU : fits U := fits_mem.2 fun u hu => by
            rw [hUe] at hu
            obtain ⟨i, _, rfl⟩ := List.mem_map.1 hu
            exact tyAt_fit hfs i
          obtain ⟨u0, u1, u2, hu⟩ := av_cells (putF t L U)
          have hfp := put_fit (fun u hu => fits_mem.1 hfU u hu) hf (L := L)
          have q24 := k24 w els U h' (Enc.bare 0 L) (by simp [wk_agg, wk_tup, wk_sl, wks_cons, wks_nil, wk_int, wk_str, wk_bool, own_no, hw]) (by omega)
          have q15 := fun h => cM15 (Ty.av_bare 0 (putF t L U)) (Ty.av_bare 0 (putF t L U)) hfp hfp h
          rw [sameF_iff.2 rfl] at q15
          have hn0 : (0 : Nat) ≠ h'.nx := by omega
          have hn1 : (0 : Nat) ≠ h'.nx + 1 := by omega
          have hn2 : (0 : Nat) ≠ h'.nx + 1 + 1 := by omega
          have hn3 : h'.nx ≠ h'.nx + 1 + 1 := by omega
          have hn4 : h'.nx ≠ h'.nx + 1 := by omega
          have q12 := k12 (h'.nx + 1 + 1) (h'.nx + 1) 0 sd (putF t L U) ⟨(((h'.t.set h'.nx (.cells [.str [], .int .i64 0, .sl .full []])).set h'.nx (.cells [.str u0, .int .i64 u1, .sl .no u2])).set (h'.nx + 1) (.map [])).set (h'.nx + 1 + 1) (.cells [.map (some (h'.nx + 1)), .int .i64 0]), h'.nx + 1 + 1 + 1⟩ f (put_good m4 hgt) ⟨by simp [T.get_set_ite], by simp [T.get_set_ite, esOf], by simp, by simp⟩ (fun p hp => by simp at hp) m1
          have q16 := k16 (h'.nx + 1 + 1) (h'.nx + 1) 0 sd (putF t L U) (H.put ⟨(((h'.t.set h'.nx (.cells [.str [], .int .i64 0, .sl .full []])).set h'.nx (.cells [.str u0, .int .i64 u1, .sl .no u2])).set (h'.nx + 1) (.map [])).set (h'.nx + 1 + 1) (.cells [.map (some (h'.nx + 1)), .int .i64 0]), h'.nx + 1 + 1 + 1⟩ (h'.nx + 1) (.map (esOf sd))) g ⟨by simp [H.put, T.get_set_ite], by simp [H.put, T.get_set_ite], by simp [H.put], by simp [H.put]⟩ m3 m2
          rw [hu] at q24 q15 q12 q16
          simp only [H.put] at q12 q16
          simp [cdL_seq, cdL_region, cdL_drawn, cdL_cond, cdL_block, cdL_skip, cdL_label, cdL_exit, cdL_ret, endL, evSeq, evOne, evAct, evOp, opKind, evPure, evRead, evNew, evWrite, evSlice, natOf, optVal, readAt, AV.cells, wantedA, putTm, val, allVals, evBin, evInt, evStr, evAppend, denseFrom, sizesAre, onesIn, evPlan, recheck, AV.beq_refl, H.new, H.put, fillF, fillAt, allOne, AV.one, setArgs, evRes, resOf, ofVal, ofVal0, blt_dec, ble_dec, beq_dec, T.get_set_ite, T.get_e, isShift, ikBeq, ty_0, ty_1, ty_2, ty_3, ty_4, ty_5, ty_6, ty_7, ty_8, ty_9, ty_10, ty_11, ty_12, ty_13, ty_14, ty_15, ty_16, ty_17, ty_18, ty_19, ty_20, ty_21, ty_22, ty_23, ty_24, ty_25, ty_26, ty_27, ty_28, ty_29, ty_30, ty_31, ty_32, ty_33, ty_34, ty_35, ty_36, ty_37, ty_38, ty_39, ty_40, ty_41, ty_42, ty_43, ty_44, ty_45, ty_46, ty_47, ty_48, ty_49, ty_50, ty_51, ty_52, ty_53, ty_54, ty_55, ty_56, ty_57, ty_58, ty_59, ty_60, ty_61, ty_62, ty_63, ty_64, ty_65, ty_66, ty_67, ty_68, ty_69, ty_70, ty_71, ty_72, ty_73, ty_74, ty_75, ty_76, ty_77, ty_78, pl_3_7, pl_3_12, pl_3_14, pl_3_15, pl_3_17, pl_4_12, pl_5_7, pl_6_16, pl_6_21, pl_7_3, pl_7_7, pl_8_5, pl_12_3, pl_13_1, pl_13_11, pl_15_6, pl_16_8, pl_17_4, pl_19_5, pl_19_12, pl_24_5, pl_24_12, pl_26_1, pl_27_2, pl_28_3, pl_30_3, pl_33_2, eMty, eMpl, g1, g2, g5, g6, g7, z0, q24, newM_run, evEq, q12, q16, q15, hn0, hn1, hn2, hn3, hn4]
          generalize hx2 : cdL envM 6 102 (.loop b6_1) _ _ = x2
          obtain ⟨tm2, rfl⟩ := loop6_1 (L := L) (U := U) (els := els) (w := w) (s := h'.nx + 1 + 1) (m := h'.nx + 1) (nx := 0) (sd := sd) hLn hUl hw m3 hfU m5 L 0 hx2 rfl (by omega) ⟨by simp [T.get_set_ite], by simp [T.get_set_ite], by simp, by simp⟩ (by simp [T.get_set_ite, g5]) (by simp [T.get_set_ite, g6]) (by simp [T.get_set_ite]) (by simp [T.get_set_ite])
          simp [cdL_seq, cdL_region, cdL_drawn, cdL_cond, cdL_block, cdL_skip, cdL_label, cdL_exit, cdL_ret, endL, evSeq, evOne, evAct, evOp, opKind, evPure, evRead, evNew, evWrite, evSlice, natOf, optVal, readAt, AV.cells, wantedA, putTm, val, allVals, evBin, evInt, evStr, evAppend, denseFrom, sizesAre, onesIn, evPlan, recheck, AV.beq_refl, H.new, H.put, fillF, fillAt, allOne, AV.one, setArgs, evRes, resOf, ofVal, ofVal0, blt_dec, ble_dec, beq_dec, T.get_set_ite, T.get_e, isShift, ikBeq, ty_0, ty_1, ty_2, ty_3, ty_4, ty_5, ty_6, ty_7, ty_8, ty_9, ty_10, ty_11, ty_12, ty_13, ty_14, ty_15, ty_16, ty_17, ty_18, ty_19, ty_20, ty_21, ty_22, ty_23, ty_24, ty_25, ty_26, ty_27, ty_28, ty_29, ty_30, ty_31, ty_32, ty_33, ty_34, ty_35, ty_36, ty_37, ty_38, ty_39, ty_40, ty_41, ty_42, ty_43, ty_44, ty_45, ty_46, ty_47, ty_48, ty_49, ty_50, ty_51, ty_52, ty_53, ty_54, ty_55, ty_56, ty_57, ty_58, ty_59, ty_60, ty_61, ty_62, ty_63, ty_64, ty_65, ty_66, ty_67, ty_68, ty_69, ty_70, ty_71, ty_72, ty_73, ty_74, ty_75, ty_76, ty_77, ty_78, pl_3_7, pl_3_12, pl_3_14, pl_3_15, pl_3_17, pl_4_12, pl_5_7, pl_6_16, pl_6_21, pl_7_3, pl_7_7, pl_8_5, pl_12_3, pl_13_1, pl_13_11, pl_15_6, pl_16_8, pl_17_4, pl_19_5, pl_19_12, pl_24_5, pl_24_12, pl_26_1, pl_27_2, pl_28_3, pl_30_3, pl_33_2, eMty, eMpl, cM14]
end Go.Proofs.Ytiifjjcoepgobaa.Env
