/- The program's General as a primitive. -/
import Derived.Test.YtcmbpfobdgijjaaSQ
import Derived.Test.YtcmbpfobdgijjaaSV
import Derived.Test.YtcmbpfobdgijjaaEwG
set_option autoImplicit false
set_option maxRecDepth 100000
set_option linter.unusedSimpArgs false
set_option linter.unusedVariables false
set_option linter.unusedSectionVars false
namespace Go.Proofs.Ytcmbpfobdgijjaa.Env
open Go.Ev

noncomputable def bG9_0 : Code := loopOf Try.f9 0
theorem bodyG9 : Try.f9.body = some (.seq (codeAt Try.f9 [0]) (.seq (codeAt Try.f9 [1, 0]) (.seq (codeAt Try.f9 [1, 1, 0]) (.seq (.seq (codeAt Try.f9 [1, 1, 1, 0, 0]) (.block 0 (.loop bG9_0))) (codeAt Try.f9 [1, 1, 1, 1]))))) := rfl
theorem loopG9 {E : Env} (hty : E.ty = env.ty) (hpl : E.plan = env.plan) (h21 : E.prim 21 = some pCont) {own V : List Int} {p b4 : Nat} {cs cs4 : List AV} (hcs : cs.length = 3) (hV : V.length ≤ 1000000) (ho : own.length ≤ 9223372036854775807) (h4p : b4 ≠ p) :
    ∀ (l : List Int) (j : Nat) (w : Go.Ev.Own) (done : List Int) {tm : Tm} {h : H} {x : Option (Ex × Tm × H)}, cdL E 9 32 (.loop bG9_0) tm h = x → l = V.drop j → j ≤ V.length → done.length + l.length ≤ 1000000 → RowE 3 1 h w (ints done) → h.t.get p = some (.cells (.sl w (ints done) :: cs)) → p < h.nx → h.t.get b4 = some (.cells cs4) → b4 < h.nx →
    tm.get 4 = some (.ptr (some (b4, 0))) → tm.get 5 = some (.sl .no (ints own)) → tm.get 6 = some (.ptr (some (p, 0))) → tm.get 14 = some (.sl .no (ints V)) → tm.get 15 = some (.int .i64 ↑V.length) → tm.get 16 = some (.int .i64 ↑j) →
    ∃ tm' h' w', x = some (.exit 0, tm', h') ∧ tm'.get 4 = some (.ptr (some (b4, 0))) ∧ tm'.get 6 = some (.ptr (some (p, 0))) ∧ h'.t.get p = some (.cells (.sl w' (ints (done ++ genF own l)) :: cs)) ∧ h'.t.get b4 = some (.cells cs4)
  | [], j, w, done, tm, h, x, hx, hd, hj, hlen, hr, hz, hp, hz4, hp4, g4, g5, g6, g14, g15, g16 => by
    have hl := dnil hd hj
    obtain ⟨R, hR, hx⟩ := loop_step hx
    simp [bG9_0, loopOf, Try.f9, loops, cdL_seq, cdL_region, cdL_drawn, cdL_cond, cdL_block, cdL_skip, cdL_label, cdL_exit, cdL_ret, endL, evSeq, evOne, evAct, evOp, opKind, evPure, evRead, evNew, evWrite, evSlice, natOf, optVal, readAt, AV.cells, wantedA, putTm, val, allVals, evBin, evInt, evStr, evAppend, denseFrom, sizesAre, onesIn, evPlan, recheck, AV.beq_refl, H.new, H.put, fillF, fillAt, allOne, AV.one, setArgs, evRes, resOf, ofVal, ofVal0, blt_dec, ble_dec, beq_dec, T.get_set_ite, T.get_e, isShift, ikBeq, ty_0, ty_1, ty_2, ty_3, ty_4, ty_5, ty_6, ty_7, ty_8, ty_9, ty_10, ty_11, ty_12, ty_13, ty_14, ty_15, ty_16, ty_17, ty_18, ty_19, ty_20, ty_21, ty_22, ty_23, ty_24, ty_25, ty_26, ty_27, ty_28, ty_29, ty_30, ty_31, ty_32, ty_33, ty_34, ty_35, ty_36, ty_37, ty_38, ty_39, ty_40, ty_41, ty_42, ty_43, ty_44, ty_45, ty_46, ty_47, ty_48, ty_49, ty_50, ty_51, ty_52, ty_53, ty_54, ty_55, ty_56, ty_57, ty_58, ty_59, ty_60, ty_61, ty_62, ty_63, ty_64, ty_65, ty_66, ty_67, ty_68, ty_69, ty_70, ty_71, ty_72, ty_73, ty_74, ty_75, ty_76, ty_77, ty_78, ty_79, ty_80, ty_81, ty_82, ty_83, ty_84, ty_85, ty_86, ty_87, ty_88, ty_89, ty_90, ty_91, ty_92, ty_93, ty_94, ty_95, ty_96, ty_97, ty_98, ty_99, pl_3_10, pl_4_3, pl_5_3, pl_10_9, pl_10_11, pl_10_13, pl_13_1, pl_13_7, pl_16_6, pl_18_6, pl_19_1, pl_27_6, pl_27_11, pl_33_17, pl_35_4, pl_35_6, pl_36_10, pl_37_10, pl_39_3, pl_40_5, pl_40_11, pl_40_16, pl_40_17, pl_40_22, pl_40_23, pl_42_1, pl_42_3, pl_42_5, pl_42_8, pl_43_1, pl_43_3, pl_43_5, pl_43_8, pl_43_10, pl_43_13, pl_43_15, pl_43_18, pl_43_21, pl_46_3, pl_46_5, pl_46_6, pl_48_1, pl_48_2, pl_48_3, pl_52_1, lp, hty, hpl, g4, g5, g6, g14, g15, g16, hl, ltI_f] at hx
    exact ⟨_, h, w, hx.symm, by simp [T.get_set_ite, g4], by simp [T.get_set_ite, g6], by simpa [genF] using hz, hz4⟩
  | v :: l, j, w, done, tm, h, x, hx, hd, hj, hlen, hr, hz, hp, hz4, hp4, g4, g5, g6, g14, g15, g16 => by
    obtain ⟨hlt, hc, hd'⟩ := dcons hd
    have hic := ints_get hc
    have hlt' := ltI_t hlt
    have hw := wr_succ (i := j) (by omega)
    simp only [List.length_cons] at hlen
    have k1 := fun h => cCont (E := E) h21 .no own v ho h
    obtain ⟨c0, c1, c2, rfl⟩ : ∃ c0 c1 c2, cs = [c0, c1, c2] := by
      match cs, hcs with
      | [c0, c1, c2], _ => exact ⟨c0, c1, c2, rfl⟩
    obtain ⟨R, hR, hx⟩ := loop_step hx
    cases h1 : hasI own v with
    | true =>
      have e : genF own (v :: l) = genF own l := by simp [genF, h1]
      simp [bG9_0, loopOf, Try.f9, loops, cdL_seq, cdL_region, cdL_drawn, cdL_cond, cdL_block, cdL_skip, cdL_label, cdL_exit, cdL_ret, endL, evSeq, evOne, evAct, evOp, opKind, evPure, evRead, evNew, evWrite, evSlice, natOf, optVal, readAt, AV.cells, wantedA, putTm, val, allVals, evBin, evInt, evStr, evAppend, denseFrom, sizesAre, onesIn, evPlan, recheck, AV.beq_refl, H.new, H.put, fillF, fillAt, allOne, AV.one, setArgs, evRes, resOf, ofVal, ofVal0, blt_dec, ble_dec, beq_dec, T.get_set_ite, T.get_e, isShift, ikBeq, ty_0, ty_1, ty_2, ty_3, ty_4, ty_5, ty_6, ty_7, ty_8, ty_9, ty_10, ty_11, ty_12, ty_13, ty_14, ty_15, ty_16, ty_17, ty_18, ty_19, ty_20, ty_21, ty_22, ty_23, ty_24, ty_25, ty_26, ty_27, ty_28, ty_29, ty_30, ty_31, ty_32, ty_33, ty_34, ty_35, ty_36, ty_37, ty_38, ty_39, ty_40, ty_41, ty_42, ty_43, ty_44, ty_45, ty_46, ty_47, ty_48, ty_49, ty_50, ty_51, ty_52, ty_53, ty_54, ty_55, ty_56, ty_57, ty_58, ty_59, ty_60, ty_61, ty_62, ty_63, ty_64, ty_65, ty_66, ty_67, ty_68, ty_69, ty_70, ty_71, ty_72, ty_73, ty_74, ty_75, ty_76, ty_77, ty_78, ty_79, ty_80, ty_81, ty_82, ty_83, ty_84, ty_85, ty_86, ty_87, ty_88, ty_89, ty_90, ty_91, ty_92, ty_93, ty_94, ty_95, ty_96, ty_97, ty_98, ty_99, pl_3_10, pl_4_3, pl_5_3, pl_10_9, pl_10_11, pl_10_13, pl_13_1, pl_13_7, pl_16_6, pl_18_6, pl_19_1, pl_27_6, pl_27_11, pl_33_17, pl_35_4, pl_35_6, pl_36_10, pl_37_10, pl_39_3, pl_40_5, pl_40_11, pl_40_16, pl_40_17, pl_40_22, pl_40_23, pl_42_1, pl_42_3, pl_42_5, pl_42_8, pl_43_1, pl_43_3, pl_43_5, pl_43_8, pl_43_10, pl_43_13, pl_43_15, pl_43_18, pl_43_21, pl_46_3, pl_46_5, pl_46_6, pl_48_1, pl_48_2, pl_48_3, pl_52_1, lp, hty, hpl, g4, g5, g6, g14, g15, g16, hlt', hic, k1, h1, hw] at hx
      rw [hR] at hx
      rw [e]
      exact loopG9 hty hpl h21 (p := p) (b4 := b4) (cs4 := cs4) rfl hV ho h4p l (j + 1) w done hx hd' hlt (by omega) hr hz hp hz4 hp4 (by simp [T.get_set_ite, g4]) (by simp [T.get_set_ite, g5]) (by simp [T.get_set_ite, g6]) (by simp [T.get_set_ite, g14]) (by simp [T.get_set_ite, g15]) (by simp [T.get_set_ite])
    | false =>
      have e : genF own (v :: l) = v :: genF own l := by simp [genF, h1]
      obtain ⟨w2, h2, e2, r2, n2, x2, f2⟩ := app_intsF (ys := [v]) (by simp; omega) hr
      have hwp : ∀ {q : Nat} {cs : List AV}, h.t.get q = some (.cells cs) → w ≠ .ch q := fun hq => by
        rcases hr with ⟨rfl, _⟩ | ⟨id, rfl, hg, _⟩
        · simp
        · rintro ⟨⟩; rw [hq] at hg; cases hg
      have hz2 : h2.t.get p = some (.cells (.sl w (ints done) :: [c0, c1, c2])) := by rw [f2 p hp (hwp hz)]; exact hz
      have hz42 : h2.t.get b4 = some (.cells cs4) := by rw [f2 b4 hp4 (hwp hz4)]; exact hz4
      have zv : ints [v] = [.int .i64 v] := rfl
      rw [zv] at e2
      simp [bG9_0, loopOf, Try.f9, loops, cdL_seq, cdL_region, cdL_drawn, cdL_cond, cdL_block, cdL_skip, cdL_label, cdL_exit, cdL_ret, endL, evSeq, evOne, evAct, evOp, opKind, evPure, evRead, evNew, evWrite, evSlice, natOf, optVal, readAt, AV.cells, wantedA, putTm, val, allVals, evBin, evInt, evStr, evAppend, denseFrom, sizesAre, onesIn, evPlan, recheck, AV.beq_refl, H.new, H.put, fillF, fillAt, allOne, AV.one, setArgs, evRes, resOf, ofVal, ofVal0, blt_dec, ble_dec, beq_dec, T.get_set_ite, T.get_e, isShift, ikBeq, ty_0, ty_1, ty_2, ty_3, ty_4, ty_5, ty_6, ty_7, ty_8, ty_9, ty_10, ty_11, ty_12, ty_13, ty_14, ty_15, ty_16, ty_17, ty_18, ty_19, ty_20, ty_21, ty_22, ty_23, ty_24, ty_25, ty_26, ty_27, ty_28, ty_29, ty_30, ty_31, ty_32, ty_33, ty_34, ty_35, ty_36, ty_37, ty_38, ty_39, ty_40, ty_41, ty_42, ty_43, ty_44, ty_45, ty_46, ty_47, ty_48, ty_49, ty_50, ty_51, ty_52, ty_53, ty_54, ty_55, ty_56, ty_57, ty_58, ty_59, ty_60, ty_61, ty_62, ty_63, ty_64, ty_65, ty_66, ty_67, ty_68, ty_69, ty_70, ty_71, ty_72, ty_73, ty_74, ty_75, ty_76, ty_77, ty_78, ty_79, ty_80, ty_81, ty_82, ty_83, ty_84, ty_85, ty_86, ty_87, ty_88, ty_89, ty_90, ty_91, ty_92, ty_93, ty_94, ty_95, ty_96, ty_97, ty_98, ty_99, pl_3_10, pl_4_3, pl_5_3, pl_10_9, pl_10_11, pl_10_13, pl_13_1, pl_13_7, pl_16_6, pl_18_6, pl_19_1, pl_27_6, pl_27_11, pl_33_17, pl_35_4, pl_35_6, pl_36_10, pl_37_10, pl_39_3, pl_40_5, pl_40_11, pl_40_16, pl_40_17, pl_40_22, pl_40_23, pl_42_1, pl_42_3, pl_42_5, pl_42_8, pl_43_1, pl_43_3, pl_43_5, pl_43_8, pl_43_10, pl_43_13, pl_43_15, pl_43_18, pl_43_21, pl_46_3, pl_46_5, pl_46_6, pl_48_1, pl_48_2, pl_48_3, pl_52_1, lp, hty, hpl, g4, g5, g6, g14, g15, g16, hlt', hic, k1, h1, hw, hz, hz2, e2, -evAppend] at hx
      rw [hR] at hx
      have hpx : RowE 3 1 ⟨h2.t.set p (.cells [.sl w2 (ints (done ++ [v])), c0, c1, c2]), h2.nx⟩ w2 (ints (done ++ [v])) := by
        rcases r2 with e | ⟨id, e, hg, hi⟩
        · exact .inl e
        · refine .inr ⟨id, e, ?_, hi⟩
          have : id ≠ p := by rintro rfl; rw [hz2] at hg; cases hg
          simp only [T.get_set_ite]; rw [if_neg this]; exact hg
      obtain ⟨tm', h', w', q1, q2, q3, q4, q5⟩ := loopG9 hty hpl h21 (p := p) (b4 := b4) (cs4 := cs4) (cs := [c0, c1, c2]) rfl hV ho h4p l (j + 1) w2 (done ++ [v]) hx hd' hlt (by simp; omega) hpx (by simp [T.get_set_ite]) (by simp; omega) (by simp [T.get_set_ite, h4p, hz42]) (by simp; omega) (by simp [T.get_set_ite, g4]) (by simp [T.get_set_ite, g5]) (by simp [T.get_set_ite, g6]) (by simp [T.get_set_ite, g14]) (by simp [T.get_set_ite, g15]) (by simp [T.get_set_ite])
      rw [e]
      exact ⟨tm', h', w', q1, q2, q3, by simpa using q4, q5⟩
theorem gen9_run {E : Env} (hty : E.ty = env.ty) (hpl : E.plan = env.plan) (h17 : E.prim 17 = some pRFree) (h20 : E.prim 20 = some pTVars) (h21 : E.prim 21 = some pCont) {bs : List Bd} {t : Ty} (hq : qGen bs t) (hft : fit t) :
    ∃ v h', bodyL E 9 Try.f9 (.seq (codeAt Try.f9 [0]) (.seq (codeAt Try.f9 [1, 0]) (.seq (codeAt Try.f9 [1, 1, 0]) (.seq (.seq (codeAt Try.f9 [1, 1, 1, 0, 0]) (.block 0 (.loop bG9_0))) (codeAt Try.f9 [1, 1, 1, 1]))))) [Enc.enc bs, Enc.enc t] ⟨.e, 0⟩ = some (v, h') ∧ v.wk 0 (Enc.enc (Sc.mk (genF (freeR bs []) (varsF t [])) t)) := by
  obtain ⟨hqe, hqt, hfl⟩ := hq
  have k17 := fun h => prim1_call (E := E) (f := 17) (a := bs) (F := fun bs => freeR bs []) (q := qEnv) h17 (Enc.bare 0 bs) hqe h
  have hvl := varsF_len t []
  have hsz := hqt.2
  simp only [List.length_nil, Nat.zero_add] at hvl
  have k20 := fun h => cTVars (E := E) h20 (x := t.av) (Ty.av_bare 0 t) hft (by omega) h
  have hb := Ty.av_bare 0 t
  have hb2 := wks_map_refl 0 (genF (freeR bs []) (varsF t []))
  have hil := ints_len (varsF t [])
  rw [show (Enc.enc t : AV) = t.av from rfl]
  rw [show (Enc.enc bs : AV) = .sl .no (bds bs) from rfl] at k17 ⊢
  rw [show (Enc.enc (freeR bs []) : AV) = .sl .no (ints (freeR bs [])) from rfl] at k17
  rw [show (Enc.enc (Sc.mk (genF (freeR bs []) (varsF t [])) t) : AV) = scAV (genF (freeR bs []) (varsF t [])) t from rfl]
  obtain ⟨t0, t1, t2, ht⟩ := av_cells t
  have hL := fun (x : Option (Ex × Tm × H)) tm h => loopG9 (E := E) hty hpl h21 (own := freeR bs []) (V := varsF t []) (p := 2) (b4 := 1) (cs := t.av.cells) (cs4 := [.sl .full [], .str [], .int .i64 0, .sl .full []]) (by rw [ht]; rfl) (by omega) hfl (by omega) (varsF t []) 0 .full [] (x := x) (tm := tm) (h := h)
  unfold scAV
  rw [ht] at k20 hb hL ⊢
  simp only [AV.cells] at hL ⊢
  unfold bodyL
  simp only [codeAt, sub, Try.f9]
  simp [cdL_seq, cdL_region, cdL_drawn, cdL_cond, cdL_block, cdL_skip, cdL_label, cdL_exit, cdL_ret, endL, evSeq, evOne, evAct, evOp, opKind, evPure, evRead, evNew, evWrite, evSlice, natOf, optVal, readAt, AV.cells, wantedA, putTm, val, allVals, evBin, evInt, evStr, evAppend, denseFrom, sizesAre, onesIn, evPlan, recheck, AV.beq_refl, H.new, H.put, fillF, fillAt, allOne, AV.one, setArgs, evRes, resOf, ofVal, ofVal0, blt_dec, ble_dec, beq_dec, T.get_set_ite, T.get_e, isShift, ikBeq, ty_0, ty_1, ty_2, ty_3, ty_4, ty_5, ty_6, ty_7, ty_8, ty_9, ty_10, ty_11, ty_12, ty_13, ty_14, ty_15, ty_16, ty_17, ty_18, ty_19, ty_20, ty_21, ty_22, ty_23, ty_24, ty_25, ty_26, ty_27, ty_28, ty_29, ty_30, ty_31, ty_32, ty_33, ty_34, ty_35, ty_36, ty_37, ty_38, ty_39, ty_40, ty_41, ty_42, ty_43, ty_44, ty_45, ty_46, ty_47, ty_48, ty_49, ty_50, ty_51, ty_52, ty_53, ty_54, ty_55, ty_56, ty_57, ty_58, ty_59, ty_60, ty_61, ty_62, ty_63, ty_64, ty_65, ty_66, ty_67, ty_68, ty_69, ty_70, ty_71, ty_72, ty_73, ty_74, ty_75, ty_76, ty_77, ty_78, ty_79, ty_80, ty_81, ty_82, ty_83, ty_84, ty_85, ty_86, ty_87, ty_88, ty_89, ty_90, ty_91, ty_92, ty_93, ty_94, ty_95, ty_96, ty_97, ty_98, ty_99, pl_3_10, pl_4_3, pl_5_3, pl_10_9, pl_10_11, pl_10_13, pl_13_1, pl_13_7, pl_16_6, pl_18_6, pl_19_1, pl_27_6, pl_27_11, pl_33_17, pl_35_4, pl_35_6, pl_36_10, pl_37_10, pl_39_3, pl_40_5, pl_40_11, pl_40_16, pl_40_17, pl_40_22, pl_40_23, pl_42_1, pl_42_3, pl_42_5, pl_42_8, pl_43_1, pl_43_3, pl_43_5, pl_43_8, pl_43_10, pl_43_13, pl_43_15, pl_43_18, pl_43_21, pl_46_3, pl_46_5, pl_46_6, pl_48_1, pl_48_2, pl_48_3, pl_52_1, hty, hpl, k17, k20, hil]
  generalize hx : cdL E 9 32 (.loop bG9_0) _ _ = x
  obtain ⟨tm', h', w', rfl, q1, q2, q3, q4⟩ := hL x _ _ hx rfl (Nat.zero_le _) (by simp; omega) (.inl ⟨rfl, rfl⟩) (by simp [T.get_set_ite, ints]) (by simp) (by simp [T.get_set_ite]) (by simp) (by simp [T.get_set_ite]) (by simp [T.get_set_ite]) (by simp [T.get_set_ite]) (by simp [T.get_set_ite]) (by simp [T.get_set_ite]) (by simp [T.get_set_ite])
  simp [cdL_seq, cdL_region, cdL_drawn, cdL_cond, cdL_block, cdL_skip, cdL_label, cdL_exit, cdL_ret, endL, evSeq, evOne, evAct, evOp, opKind, evPure, evRead, evNew, evWrite, evSlice, natOf, optVal, readAt, AV.cells, wantedA, putTm, val, allVals, evBin, evInt, evStr, evAppend, denseFrom, sizesAre, onesIn, evPlan, recheck, AV.beq_refl, H.new, H.put, fillF, fillAt, allOne, AV.one, setArgs, evRes, resOf, ofVal, ofVal0, blt_dec, ble_dec, beq_dec, T.get_set_ite, T.get_e, isShift, ikBeq, ty_0, ty_1, ty_2, ty_3, ty_4, ty_5, ty_6, ty_7, ty_8, ty_9, ty_10, ty_11, ty_12, ty_13, ty_14, ty_15, ty_16, ty_17, ty_18, ty_19, ty_20, ty_21, ty_22, ty_23, ty_24, ty_25, ty_26, ty_27, ty_28, ty_29, ty_30, ty_31, ty_32, ty_33, ty_34, ty_35, ty_36, ty_37, ty_38, ty_39, ty_40, ty_41, ty_42, ty_43, ty_44, ty_45, ty_46, ty_47, ty_48, ty_49, ty_50, ty_51, ty_52, ty_53, ty_54, ty_55, ty_56, ty_57, ty_58, ty_59, ty_60, ty_61, ty_62, ty_63, ty_64, ty_65, ty_66, ty_67, ty_68, ty_69, ty_70, ty_71, ty_72, ty_73, ty_74, ty_75, ty_76, ty_77, ty_78, ty_79, ty_80, ty_81, ty_82, ty_83, ty_84, ty_85, ty_86, ty_87, ty_88, ty_89, ty_90, ty_91, ty_92, ty_93, ty_94, ty_95, ty_96, ty_97, ty_98, ty_99, pl_3_10, pl_4_3, pl_5_3, pl_10_9, pl_10_11, pl_10_13, pl_13_1, pl_13_7, pl_16_6, pl_18_6, pl_19_1, pl_27_6, pl_27_11, pl_33_17, pl_35_4, pl_35_6, pl_36_10, pl_37_10, pl_39_3, pl_40_5, pl_40_11, pl_40_16, pl_40_17, pl_40_22, pl_40_23, pl_42_1, pl_42_3, pl_42_5, pl_42_8, pl_43_1, pl_43_3, pl_43_5, pl_43_8, pl_43_10, pl_43_13, pl_43_15, pl_43_18, pl_43_21, pl_46_3, pl_46_5, pl_46_6, pl_48_1, pl_48_2, pl_48_3, pl_52_1, hty, hpl, q1, q2, q3, q4]
  rw [wk_agg, wks_cons]
  rw [wk_agg] at hb
  refine ⟨?_, hb⟩
  rw [wk_sl]
  exact ⟨own_no, hb2⟩
end Go.Proofs.Ytcmbpfobdgijjaa.Env
/- The reference's Look as a primitive; known. -/
set_option autoImplicit false
set_option maxRecDepth 100000
set_option linter.unusedSimpArgs false
set_option linter.unusedVariables false
set_option linter.unusedSectionVars false
namespace Go.Proofs.Ytcmbpfobdgijjaa.Env
open Go.Ev

/-- What a look gives. -/
structure Lk where
  sc : Sc
  ok : Bool
def Lk.av (b : Lk) : AV := .tup [b.sc.av, .bool b.ok]
theorem lk_inj {x : AV} {a b : Lk} (h1 : x.wk 0 a.av) (h2 : x.wk 0 b.av) : a = b := by
  obtain ⟨a1, a2⟩ := a
  obtain ⟨b1, b2⟩ := b
  simp only [Lk.av] at h1 h2
  cases x with
  | ptr a => cases a <;> simp [AV.wk] at h1
  | map a => cases a <;> simp [AV.wk] at h1
  | tup cs =>
    rw [wk_tup] at h1 h2
    match cs, h1, h2 with
    | [], h1, _ => exact absurd (wks_iff.1 h1).1 (by simp)
    | [_], h1, _ => exact absurd (wks_iff.1 h1).1 (by simp)
    | [c1, c2], h1, h2 =>
      simp only [wks_cons] at h1 h2
      have e1 := sc_inj h1.1 h2.1
      have e2 := Enc.inj (α := Bool) (a := a2) (b := b2) h1.2.1 h2.2.1
      rw [e1, e2]
    | _ :: _ :: _ :: _, h1, _ => exact absurd (wks_iff.1 h1).1 (by simp)
  | _ => simp [AV.wk] at h1
theorem lk_bare (n : Nat) (b : Lk) : b.av.wk n b.av := by
  simp only [Lk.av]
  rw [wk_tup, wks_cons, wks_cons]
  exact ⟨sc_bare n b.sc, Enc.bare n b.ok, by simp [AV.wks]⟩
instance : Enc Lk where
  enc := Lk.av
  inj := lk_inj
  bare := lk_bare
/-- Of the first k, the last one of a name. -/
def lookK (bs : List Bd) (name : List Nat) : Nat → Lk
  | 0 => ⟨⟨[], .mk [] 0 []⟩, false⟩
  | k + 1 => match bs[k]? with
    | some b => bif natsBeq b.name name then ⟨⟨b.vars, b.ty⟩, true⟩ else lookK bs name k
    | none => lookK bs name k
def lookF (bs : List Bd) (name : Str) : Lk := lookK bs name.s bs.length
noncomputable def bL15_0 : Code := loopOf Try.f15 0
theorem bodyL15 : Try.f15.body = some (.seq (codeAt Try.f15 [0]) (.seq (.seq (codeAt Try.f15 [1, 0, 0]) (.block 0 (.loop bL15_0))) (codeAt Try.f15 [1, 1]))) := rfl
theorem wr_pred {i : Nat} (h : i ≤ 1000000000000000000) : wr .i64 (Int.sub ↑i 1) = ↑i - 1 := by rw [wr_eq]; exact wrap_i64_in (by show _ ≤ (↑i - 1 : Int); omega) (by show (↑i - 1 : Int) < _; omega)
def zeroSc : List AV := [.sl .full [], .str [], .int .i64 0, .sl .full []]
theorem loopL15 {E : Env} (hty : E.ty = env.ty) (hpl : E.plan = env.plan) {bs : List Bd} {name : List Nat} (hl : bs.length ≤ 1000000000000000000) :
    ∀ (k : Nat) {tm : Tm} {h : H} {x : Option (Ex × Tm × H)}, cdL E 15 27 (.loop bL15_0) tm h = x → k ≤ bs.length → tm.get 0 = some (.sl .no (bds bs)) → tm.get 1 = some (.str name) → tm.get 4 = some (.ptr (some (0, 0))) → tm.get 5 = some (.bool false) → tm.get 6 = some (.int .i64 (↑k - 1)) → h.t.get 0 = some (.cells zeroSc) →
    ∃ tm' h', tm'.get 4 = some (.ptr (some (0, 0))) ∧
      ((x = some (.exit 0, tm', h') ∧ lookK bs name k = ⟨⟨[], .mk [] 0 []⟩, false⟩ ∧ h'.t.get 0 = some (.cells zeroSc)) ∨
       (x = some (.ret, tm', h') ∧ (lookK bs name k).ok = true ∧ tm'.get 5 = some (.bool true) ∧ h'.t.get 0 = some (.cells (lookK bs name k).sc.av.cells)))
  | 0, tm, h, x, hx, hk, g0, g1, g4, g5, g6, hz => by
    obtain ⟨R, hR, hx⟩ := loop_step hx
    have e : ltI (-1) 0 = true := rfl
    simp at g6
    simp [bL15_0, loopOf, Try.f15, loops, cdL_seq, cdL_region, cdL_drawn, cdL_cond, cdL_block, cdL_skip, cdL_label, cdL_exit, cdL_ret, endL, evSeq, evOne, evAct, evOp, opKind, evPure, evRead, evNew, evWrite, evSlice, natOf, optVal, readAt, AV.cells, wantedA, putTm, val, allVals, evBin, evInt, evStr, evAppend, denseFrom, sizesAre, onesIn, evPlan, recheck, AV.beq_refl, H.new, H.put, fillF, fillAt, allOne, AV.one, setArgs, evRes, resOf, ofVal, ofVal0, blt_dec, ble_dec, beq_dec, T.get_set_ite, T.get_e, isShift, ikBeq, ty_0, ty_1, ty_2, ty_3, ty_4, ty_5, ty_6, ty_7, ty_8, ty_9, ty_10, ty_11, ty_12, ty_13, ty_14, ty_15, ty_16, ty_17, ty_18, ty_19, ty_20, ty_21, ty_22, ty_23, ty_24, ty_25, ty_26, ty_27, ty_28, ty_29, ty_30, ty_31, ty_32, ty_33, ty_34, ty_35, ty_36, ty_37, ty_38, ty_39, ty_40, ty_41, ty_42, ty_43, ty_44, ty_45, ty_46, ty_47, ty_48, ty_49, ty_50, ty_51, ty_52, ty_53, ty_54, ty_55, ty_56, ty_57, ty_58, ty_59, ty_60, ty_61, ty_62, ty_63, ty_64, ty_65, ty_66, ty_67, ty_68, ty_69, ty_70, ty_71, ty_72, ty_73, ty_74, ty_75, ty_76, ty_77, ty_78, ty_79, ty_80, ty_81, ty_82, ty_83, ty_84, ty_85, ty_86, ty_87, ty_88, ty_89, ty_90, ty_91, ty_92, ty_93, ty_94, ty_95, ty_96, ty_97, ty_98, ty_99, pl_3_10, pl_4_3, pl_5_3, pl_10_9, pl_10_11, pl_10_13, pl_13_1, pl_13_7, pl_16_6, pl_18_6, pl_19_1, pl_27_6, pl_27_11, pl_33_17, pl_35_4, pl_35_6, pl_36_10, pl_37_10, pl_39_3, pl_40_5, pl_40_11, pl_40_16, pl_40_17, pl_40_22, pl_40_23, pl_42_1, pl_42_3, pl_42_5, pl_42_8, pl_43_1, pl_43_3, pl_43_5, pl_43_8, pl_43_10, pl_43_13, pl_43_15, pl_43_18, pl_43_21, pl_46_3, pl_46_5, pl_46_6, pl_48_1, pl_48_2, pl_48_3, pl_52_1, lp, hty, hpl, g0, g1, g4, g5, g6, e] at hx
    exact ⟨_, h, by simp [T.get_set_ite, g4], .inl ⟨hx.symm, rfl, hz⟩⟩
  | k + 1, tm, h, x, hx, hk, g0, g1, g4, g5, g6, hz => by
    have hlt : k < bs.length := by omega
    have hc : bs[k]? = some bs[k] := List.getElem?_eq_getElem hlt
    generalize bs[k] = b at hc
    have hat := bds_get hc
    have e : ltI ↑k 0 = false := by rw [ltI_eq]; simp
    have g6' : tm.get 6 = some (.int .i64 ↑k) := by rw [g6]; congr 2; omega
    have hw := wr_pred (i := k) (by omega)
    obtain ⟨a0, a1, a2, ha⟩ := av_cells b.ty
    have hat0 := hat
    simp only [Bd.av] at hat
    rw [ha] at hat
    simp only [AV.cells] at hat
    obtain ⟨R, hR, hx⟩ := loop_step hx
    have hlk : lookK bs name (k + 1) = bif natsBeq b.name name then ⟨⟨b.vars, b.ty⟩, true⟩ else lookK bs name k := by rw [lookK, hc]
    rw [hlk]
    cases hb : natsBeq b.name name with
    | true =>
      simp only [cond_true]
      simp [bL15_0, loopOf, Try.f15, loops, cdL_seq, cdL_region, cdL_drawn, cdL_cond, cdL_block, cdL_skip, cdL_label, cdL_exit, cdL_ret, endL, evSeq, evOne, evAct, evOp, opKind, evPure, evRead, evNew, evWrite, evSlice, natOf, optVal, readAt, AV.cells, wantedA, putTm, val, allVals, evBin, evInt, evStr, evAppend, denseFrom, sizesAre, onesIn, evPlan, recheck, AV.beq_refl, H.new, H.put, fillF, fillAt, allOne, AV.one, setArgs, evRes, resOf, ofVal, ofVal0, blt_dec, ble_dec, beq_dec, T.get_set_ite, T.get_e, isShift, ikBeq, ty_0, ty_1, ty_2, ty_3, ty_4, ty_5, ty_6, ty_7, ty_8, ty_9, ty_10, ty_11, ty_12, ty_13, ty_14, ty_15, ty_16, ty_17, ty_18, ty_19, ty_20, ty_21, ty_22, ty_23, ty_24, ty_25, ty_26, ty_27, ty_28, ty_29, ty_30, ty_31, ty_32, ty_33, ty_34, ty_35, ty_36, ty_37, ty_38, ty_39, ty_40, ty_41, ty_42, ty_43, ty_44, ty_45, ty_46, ty_47, ty_48, ty_49, ty_50, ty_51, ty_52, ty_53, ty_54, ty_55, ty_56, ty_57, ty_58, ty_59, ty_60, ty_61, ty_62, ty_63, ty_64, ty_65, ty_66, ty_67, ty_68, ty_69, ty_70, ty_71, ty_72, ty_73, ty_74, ty_75, ty_76, ty_77, ty_78, ty_79, ty_80, ty_81, ty_82, ty_83, ty_84, ty_85, ty_86, ty_87, ty_88, ty_89, ty_90, ty_91, ty_92, ty_93, ty_94, ty_95, ty_96, ty_97, ty_98, ty_99, pl_3_10, pl_4_3, pl_5_3, pl_10_9, pl_10_11, pl_10_13, pl_13_1, pl_13_7, pl_16_6, pl_18_6, pl_19_1, pl_27_6, pl_27_11, pl_33_17, pl_35_4, pl_35_6, pl_36_10, pl_37_10, pl_39_3, pl_40_5, pl_40_11, pl_40_16, pl_40_17, pl_40_22, pl_40_23, pl_42_1, pl_42_3, pl_42_5, pl_42_8, pl_43_1, pl_43_3, pl_43_5, pl_43_8, pl_43_10, pl_43_13, pl_43_15, pl_43_18, pl_43_21, pl_46_3, pl_46_5, pl_46_6, pl_48_1, pl_48_2, pl_48_3, pl_52_1, lp, hty, hpl, g0, g1, g4, g5, g6', e, hat, hb, hz, zeroSc] at hx
      refine ⟨_, _, ?_, .inr ⟨hx.symm, trivial, ?_, ?_⟩⟩
      · simp [T.get_set_ite, g4]
      · simp [T.get_set_ite]
      · simp only [Sc.av, scAV]; rw [ha]; simp [T.get_set_ite, AV.cells]
    | false =>
      simp only [cond_false]
      simp [bL15_0, loopOf, Try.f15, loops, cdL_seq, cdL_region, cdL_drawn, cdL_cond, cdL_block, cdL_skip, cdL_label, cdL_exit, cdL_ret, endL, evSeq, evOne, evAct, evOp, opKind, evPure, evRead, evNew, evWrite, evSlice, natOf, optVal, readAt, AV.cells, wantedA, putTm, val, allVals, evBin, evInt, evStr, evAppend, denseFrom, sizesAre, onesIn, evPlan, recheck, AV.beq_refl, H.new, H.put, fillF, fillAt, allOne, AV.one, setArgs, evRes, resOf, ofVal, ofVal0, blt_dec, ble_dec, beq_dec, T.get_set_ite, T.get_e, isShift, ikBeq, ty_0, ty_1, ty_2, ty_3, ty_4, ty_5, ty_6, ty_7, ty_8, ty_9, ty_10, ty_11, ty_12, ty_13, ty_14, ty_15, ty_16, ty_17, ty_18, ty_19, ty_20, ty_21, ty_22, ty_23, ty_24, ty_25, ty_26, ty_27, ty_28, ty_29, ty_30, ty_31, ty_32, ty_33, ty_34, ty_35, ty_36, ty_37, ty_38, ty_39, ty_40, ty_41, ty_42, ty_43, ty_44, ty_45, ty_46, ty_47, ty_48, ty_49, ty_50, ty_51, ty_52, ty_53, ty_54, ty_55, ty_56, ty_57, ty_58, ty_59, ty_60, ty_61, ty_62, ty_63, ty_64, ty_65, ty_66, ty_67, ty_68, ty_69, ty_70, ty_71, ty_72, ty_73, ty_74, ty_75, ty_76, ty_77, ty_78, ty_79, ty_80, ty_81, ty_82, ty_83, ty_84, ty_85, ty_86, ty_87, ty_88, ty_89, ty_90, ty_91, ty_92, ty_93, ty_94, ty_95, ty_96, ty_97, ty_98, ty_99, pl_3_10, pl_4_3, pl_5_3, pl_10_9, pl_10_11, pl_10_13, pl_13_1, pl_13_7, pl_16_6, pl_18_6, pl_19_1, pl_27_6, pl_27_11, pl_33_17, pl_35_4, pl_35_6, pl_36_10, pl_37_10, pl_39_3, pl_40_5, pl_40_11, pl_40_16, pl_40_17, pl_40_22, pl_40_23, pl_42_1, pl_42_3, pl_42_5, pl_42_8, pl_43_1, pl_43_3, pl_43_5, pl_43_8, pl_43_10, pl_43_13, pl_43_15, pl_43_18, pl_43_21, pl_46_3, pl_46_5, pl_46_6, pl_48_1, pl_48_2, pl_48_3, pl_52_1, lp, hty, hpl, g0, g1, g4, g5, g6', e, hat, hb, hw] at hx
      rw [hR] at hx
      exact loopL15 hty hpl hl k hx (by omega) (by simp [T.get_set_ite, g0]) (by simp [T.get_set_ite, g1]) (by simp [T.get_set_ite, g4]) (by simp [T.get_set_ite, g5]) (by simp [T.get_set_ite]) hz
def qLook (bs : List Bd) (name : Str) : Prop := bs.length ≤ 1000000000000000000
noncomputable abbrev pLook := primVal (ofRel (Rel2 qLook lookF))
theorem pRLook_ok : PrimOk Try.prog 15 pLook := prim2_ok env_ok (fn := Try.f15) (by kernel_rfl) bodyL15 (by kernel_rfl) fun bs name hq => by
  have hil := bds_len bs
  have hw := wr_pred (i := bs.length) hq
  rw [show (Enc.enc bs : AV) = .sl .no (bds bs) from rfl, show (Enc.enc name : AV) = .str name.s from rfl]
  unfold bodyL
  simp only [codeAt, sub, Try.f15]
  simp [cdL_seq, cdL_region, cdL_drawn, cdL_cond, cdL_block, cdL_skip, cdL_label, cdL_exit, cdL_ret, endL, evSeq, evOne, evAct, evOp, opKind, evPure, evRead, evNew, evWrite, evSlice, natOf, optVal, readAt, AV.cells, wantedA, putTm, val, allVals, evBin, evInt, evStr, evAppend, denseFrom, sizesAre, onesIn, evPlan, recheck, AV.beq_refl, H.new, H.put, fillF, fillAt, allOne, AV.one, setArgs, evRes, resOf, ofVal, ofVal0, blt_dec, ble_dec, beq_dec, T.get_set_ite, T.get_e, isShift, ikBeq, ty_0, ty_1, ty_2, ty_3, ty_4, ty_5, ty_6, ty_7, ty_8, ty_9, ty_10, ty_11, ty_12, ty_13, ty_14, ty_15, ty_16, ty_17, ty_18, ty_19, ty_20, ty_21, ty_22, ty_23, ty_24, ty_25, ty_26, ty_27, ty_28, ty_29, ty_30, ty_31, ty_32, ty_33, ty_34, ty_35, ty_36, ty_37, ty_38, ty_39, ty_40, ty_41, ty_42, ty_43, ty_44, ty_45, ty_46, ty_47, ty_48, ty_49, ty_50, ty_51, ty_52, ty_53, ty_54, ty_55, ty_56, ty_57, ty_58, ty_59, ty_60, ty_61, ty_62, ty_63, ty_64, ty_65, ty_66, ty_67, ty_68, ty_69, ty_70, ty_71, ty_72, ty_73, ty_74, ty_75, ty_76, ty_77, ty_78, ty_79, ty_80, ty_81, ty_82, ty_83, ty_84, ty_85, ty_86, ty_87, ty_88, ty_89, ty_90, ty_91, ty_92, ty_93, ty_94, ty_95, ty_96, ty_97, ty_98, ty_99, pl_3_10, pl_4_3, pl_5_3, pl_10_9, pl_10_11, pl_10_13, pl_13_1, pl_13_7, pl_16_6, pl_18_6, pl_19_1, pl_27_6, pl_27_11, pl_33_17, pl_35_4, pl_35_6, pl_36_10, pl_37_10, pl_39_3, pl_40_5, pl_40_11, pl_40_16, pl_40_17, pl_40_22, pl_40_23, pl_42_1, pl_42_3, pl_42_5, pl_42_8, pl_43_1, pl_43_3, pl_43_5, pl_43_8, pl_43_10, pl_43_13, pl_43_15, pl_43_18, pl_43_21, pl_46_3, pl_46_5, pl_46_6, pl_48_1, pl_48_2, pl_48_3, pl_52_1, hil, hw]
  generalize hx : cdL env 15 27 (.loop bL15_0) _ _ = x
  obtain ⟨tm', h', q4, ⟨rfl, r1, r2⟩ | ⟨rfl, r1, r2, r3⟩⟩ := loopL15 (E := env) rfl rfl (name := name.s) hq bs.length hx (Nat.le_refl _) (by simp [T.get_set_ite]) (by simp [T.get_set_ite]) (by simp [T.get_set_ite]) (by simp [T.get_set_ite]) (by simp [T.get_set_ite]) (by simp [T.get_set_ite, zeroSc])
  · have eF : lookF bs name = ⟨⟨[], .mk [] 0 []⟩, false⟩ := r1
    rw [eF]
    simp [cdL_seq, cdL_region, cdL_drawn, cdL_cond, cdL_block, cdL_skip, cdL_label, cdL_exit, cdL_ret, endL, evSeq, evOne, evAct, evOp, opKind, evPure, evRead, evNew, evWrite, evSlice, natOf, optVal, readAt, AV.cells, wantedA, putTm, val, allVals, evBin, evInt, evStr, evAppend, denseFrom, sizesAre, onesIn, evPlan, recheck, AV.beq_refl, H.new, H.put, fillF, fillAt, allOne, AV.one, setArgs, evRes, resOf, ofVal, ofVal0, blt_dec, ble_dec, beq_dec, T.get_set_ite, T.get_e, isShift, ikBeq, ty_0, ty_1, ty_2, ty_3, ty_4, ty_5, ty_6, ty_7, ty_8, ty_9, ty_10, ty_11, ty_12, ty_13, ty_14, ty_15, ty_16, ty_17, ty_18, ty_19, ty_20, ty_21, ty_22, ty_23, ty_24, ty_25, ty_26, ty_27, ty_28, ty_29, ty_30, ty_31, ty_32, ty_33, ty_34, ty_35, ty_36, ty_37, ty_38, ty_39, ty_40, ty_41, ty_42, ty_43, ty_44, ty_45, ty_46, ty_47, ty_48, ty_49, ty_50, ty_51, ty_52, ty_53, ty_54, ty_55, ty_56, ty_57, ty_58, ty_59, ty_60, ty_61, ty_62, ty_63, ty_64, ty_65, ty_66, ty_67, ty_68, ty_69, ty_70, ty_71, ty_72, ty_73, ty_74, ty_75, ty_76, ty_77, ty_78, ty_79, ty_80, ty_81, ty_82, ty_83, ty_84, ty_85, ty_86, ty_87, ty_88, ty_89, ty_90, ty_91, ty_92, ty_93, ty_94, ty_95, ty_96, ty_97, ty_98, ty_99, pl_3_10, pl_4_3, pl_5_3, pl_10_9, pl_10_11, pl_10_13, pl_13_1, pl_13_7, pl_16_6, pl_18_6, pl_19_1, pl_27_6, pl_27_11, pl_33_17, pl_35_4, pl_35_6, pl_36_10, pl_37_10, pl_39_3, pl_40_5, pl_40_11, pl_40_16, pl_40_17, pl_40_22, pl_40_23, pl_42_1, pl_42_3, pl_42_5, pl_42_8, pl_43_1, pl_43_3, pl_43_5, pl_43_8, pl_43_10, pl_43_13, pl_43_15, pl_43_18, pl_43_21, pl_46_3, pl_46_5, pl_46_6, pl_48_1, pl_48_2, pl_48_3, pl_52_1, q4, r2, zeroSc, Enc.enc, Lk.av, Sc.av, scAV, ints, Ty.av, Ty.avs]
    simp [wk_agg, wk_tup, wk_sl, wks_cons, wks_nil, wk_int, wk_str, wk_bool, own_no]
  · have eF : lookK bs name.s bs.length = lookF bs name := rfl
    rw [eF] at r1 r3
    obtain ⟨a0, a1, a2, ha⟩ := av_cells (lookF bs name).sc.ty
    have hb := lk_bare 0 (lookF bs name)
    rw [show (Enc.enc (lookF bs name) : AV) = (lookF bs name).av from rfl]
    simp only [Lk.av, Sc.av, scAV, AV.cells] at hb r3 ⊢
    rw [ha] at hb r3 ⊢
    rw [r1] at hb ⊢
    simp only [AV.cells] at hb r3 ⊢
    simp [cdL_seq, cdL_region, cdL_drawn, cdL_cond, cdL_block, cdL_skip, cdL_label, cdL_exit, cdL_ret, endL, evSeq, evOne, evAct, evOp, opKind, evPure, evRead, evNew, evWrite, evSlice, natOf, optVal, readAt, AV.cells, wantedA, putTm, val, allVals, evBin, evInt, evStr, evAppend, denseFrom, sizesAre, onesIn, evPlan, recheck, AV.beq_refl, H.new, H.put, fillF, fillAt, allOne, AV.one, setArgs, evRes, resOf, ofVal, ofVal0, blt_dec, ble_dec, beq_dec, T.get_set_ite, T.get_e, isShift, ikBeq, ty_0, ty_1, ty_2, ty_3, ty_4, ty_5, ty_6, ty_7, ty_8, ty_9, ty_10, ty_11, ty_12, ty_13, ty_14, ty_15, ty_16, ty_17, ty_18, ty_19, ty_20, ty_21, ty_22, ty_23, ty_24, ty_25, ty_26, ty_27, ty_28, ty_29, ty_30, ty_31, ty_32, ty_33, ty_34, ty_35, ty_36, ty_37, ty_38, ty_39, ty_40, ty_41, ty_42, ty_43, ty_44, ty_45, ty_46, ty_47, ty_48, ty_49, ty_50, ty_51, ty_52, ty_53, ty_54, ty_55, ty_56, ty_57, ty_58, ty_59, ty_60, ty_61, ty_62, ty_63, ty_64, ty_65, ty_66, ty_67, ty_68, ty_69, ty_70, ty_71, ty_72, ty_73, ty_74, ty_75, ty_76, ty_77, ty_78, ty_79, ty_80, ty_81, ty_82, ty_83, ty_84, ty_85, ty_86, ty_87, ty_88, ty_89, ty_90, ty_91, ty_92, ty_93, ty_94, ty_95, ty_96, ty_97, ty_98, ty_99, pl_3_10, pl_4_3, pl_5_3, pl_10_9, pl_10_11, pl_10_13, pl_13_1, pl_13_7, pl_16_6, pl_18_6, pl_19_1, pl_27_6, pl_27_11, pl_33_17, pl_35_4, pl_35_6, pl_36_10, pl_37_10, pl_39_3, pl_40_5, pl_40_11, pl_40_16, pl_40_17, pl_40_22, pl_40_23, pl_42_1, pl_42_3, pl_42_5, pl_42_8, pl_43_1, pl_43_3, pl_43_5, pl_43_8, pl_43_10, pl_43_13, pl_43_15, pl_43_18, pl_43_21, pl_46_3, pl_46_5, pl_46_6, pl_48_1, pl_48_2, pl_48_3, pl_52_1, q4, r2, r3]
    exact hb
noncomputable abbrev pGen := pRGen
theorem known_run {E : Env} (hty : E.ty = env.ty) (hpl : E.plan = env.plan) (hp : E.prim 12 = none) (hfn : E.fns 12 = some Try.f12) (hp23 : E.prim 23 = none) (hfn23 : E.fns 23 = some Try.f23) (hp24 : E.prim 24 = none) (hfn24 : E.fns 24 = some Try.f24) (h9 : E.prim 9 = some pGen) (h : H) : ∃ h', evL E 12 [] h = some (.bool true, h') := by
  have b23 : Try.f23.body = some (codeAt Try.f23 []) := rfl
  have b24 : Try.f24.body = some (codeAt Try.f24 []) := rfl
  have b12 : Try.f12.body = some (codeAt Try.f12 []) := rfl
  have k23 : ∀ h, ∃ h', evL E 23 [.int .i64 4] h = some (.agg [.str varS, .int .i64 4, .sl .full []], h') := fun h => by
    rw [evL_fn E hp23 hfn23 b23 _ _ rfl]
    simp only [codeAt, sub, Try.f23]
    simp [cdL_seq, cdL_region, cdL_drawn, cdL_cond, cdL_block, cdL_skip, cdL_label, cdL_exit, cdL_ret, endL, evSeq, evOne, evAct, evOp, opKind, evPure, evRead, evNew, evWrite, evSlice, natOf, optVal, readAt, AV.cells, wantedA, putTm, val, allVals, evBin, evInt, evStr, evAppend, denseFrom, sizesAre, onesIn, evPlan, recheck, AV.beq_refl, H.new, H.put, fillF, fillAt, allOne, AV.one, setArgs, evRes, resOf, ofVal, ofVal0, blt_dec, ble_dec, beq_dec, T.get_set_ite, T.get_e, isShift, ikBeq, ty_0, ty_1, ty_2, ty_3, ty_4, ty_5, ty_6, ty_7, ty_8, ty_9, ty_10, ty_11, ty_12, ty_13, ty_14, ty_15, ty_16, ty_17, ty_18, ty_19, ty_20, ty_21, ty_22, ty_23, ty_24, ty_25, ty_26, ty_27, ty_28, ty_29, ty_30, ty_31, ty_32, ty_33, ty_34, ty_35, ty_36, ty_37, ty_38, ty_39, ty_40, ty_41, ty_42, ty_43, ty_44, ty_45, ty_46, ty_47, ty_48, ty_49, ty_50, ty_51, ty_52, ty_53, ty_54, ty_55, ty_56, ty_57, ty_58, ty_59, ty_60, ty_61, ty_62, ty_63, ty_64, ty_65, ty_66, ty_67, ty_68, ty_69, ty_70, ty_71, ty_72, ty_73, ty_74, ty_75, ty_76, ty_77, ty_78, ty_79, ty_80, ty_81, ty_82, ty_83, ty_84, ty_85, ty_86, ty_87, ty_88, ty_89, ty_90, ty_91, ty_92, ty_93, ty_94, ty_95, ty_96, ty_97, ty_98, ty_99, pl_3_10, pl_4_3, pl_5_3, pl_10_9, pl_10_11, pl_10_13, pl_13_1, pl_13_7, pl_16_6, pl_18_6, pl_19_1, pl_27_6, pl_27_11, pl_33_17, pl_35_4, pl_35_6, pl_36_10, pl_37_10, pl_39_3, pl_40_5, pl_40_11, pl_40_16, pl_40_17, pl_40_22, pl_40_23, pl_42_1, pl_42_3, pl_42_5, pl_42_8, pl_43_1, pl_43_3, pl_43_5, pl_43_8, pl_43_10, pl_43_13, pl_43_15, pl_43_18, pl_43_21, pl_46_3, pl_46_5, pl_46_6, pl_48_1, pl_48_2, pl_48_3, pl_52_1, hty, hpl, bytesOf, varS]
  have k24 : ∀ s o els h, ∃ h', evL E 24 [.str s, .sl o els] h = some (.agg [.str s, .int .i64 0, .sl o els], h') := fun s o els h => by
    rw [evL_fn E hp24 hfn24 b24 _ _ rfl]
    simp only [codeAt, sub, Try.f24]
    simp [cdL_seq, cdL_region, cdL_drawn, cdL_cond, cdL_block, cdL_skip, cdL_label, cdL_exit, cdL_ret, endL, evSeq, evOne, evAct, evOp, opKind, evPure, evRead, evNew, evWrite, evSlice, natOf, optVal, readAt, AV.cells, wantedA, putTm, val, allVals, evBin, evInt, evStr, evAppend, denseFrom, sizesAre, onesIn, evPlan, recheck, AV.beq_refl, H.new, H.put, fillF, fillAt, allOne, AV.one, setArgs, evRes, resOf, ofVal, ofVal0, blt_dec, ble_dec, beq_dec, T.get_set_ite, T.get_e, isShift, ikBeq, ty_0, ty_1, ty_2, ty_3, ty_4, ty_5, ty_6, ty_7, ty_8, ty_9, ty_10, ty_11, ty_12, ty_13, ty_14, ty_15, ty_16, ty_17, ty_18, ty_19, ty_20, ty_21, ty_22, ty_23, ty_24, ty_25, ty_26, ty_27, ty_28, ty_29, ty_30, ty_31, ty_32, ty_33, ty_34, ty_35, ty_36, ty_37, ty_38, ty_39, ty_40, ty_41, ty_42, ty_43, ty_44, ty_45, ty_46, ty_47, ty_48, ty_49, ty_50, ty_51, ty_52, ty_53, ty_54, ty_55, ty_56, ty_57, ty_58, ty_59, ty_60, ty_61, ty_62, ty_63, ty_64, ty_65, ty_66, ty_67, ty_68, ty_69, ty_70, ty_71, ty_72, ty_73, ty_74, ty_75, ty_76, ty_77, ty_78, ty_79, ty_80, ty_81, ty_82, ty_83, ty_84, ty_85, ty_86, ty_87, ty_88, ty_89, ty_90, ty_91, ty_92, ty_93, ty_94, ty_95, ty_96, ty_97, ty_98, ty_99, pl_3_10, pl_4_3, pl_5_3, pl_10_9, pl_10_11, pl_10_13, pl_13_1, pl_13_7, pl_16_6, pl_18_6, pl_19_1, pl_27_6, pl_27_11, pl_33_17, pl_35_4, pl_35_6, pl_36_10, pl_37_10, pl_39_3, pl_40_5, pl_40_11, pl_40_16, pl_40_17, pl_40_22, pl_40_23, pl_42_1, pl_42_3, pl_42_5, pl_42_8, pl_43_1, pl_43_3, pl_43_5, pl_43_8, pl_43_10, pl_43_13, pl_43_15, pl_43_18, pl_43_21, pl_46_3, pl_46_5, pl_46_6, pl_48_1, pl_48_2, pl_48_3, pl_52_1, hty, hpl]
  obtain ⟨h1, e1⟩ := k23 h
  rw [evL_fn E hp hfn b12 _ _ rfl]
  simp only [codeAt, sub, Try.f12]
  simp [cdL_seq, cdL_region, cdL_drawn, cdL_cond, cdL_block, cdL_skip, cdL_label, cdL_exit, cdL_ret, endL, evSeq, evOne, evAct, evOp, opKind, evPure, evRead, evNew, evWrite, evSlice, natOf, optVal, readAt, AV.cells, wantedA, putTm, val, allVals, evBin, evInt, evStr, evAppend, denseFrom, sizesAre, onesIn, evPlan, recheck, AV.beq_refl, H.new, H.put, fillF, fillAt, allOne, AV.one, setArgs, evRes, resOf, ofVal, ofVal0, blt_dec, ble_dec, beq_dec, T.get_set_ite, T.get_e, isShift, ikBeq, ty_0, ty_1, ty_2, ty_3, ty_4, ty_5, ty_6, ty_7, ty_8, ty_9, ty_10, ty_11, ty_12, ty_13, ty_14, ty_15, ty_16, ty_17, ty_18, ty_19, ty_20, ty_21, ty_22, ty_23, ty_24, ty_25, ty_26, ty_27, ty_28, ty_29, ty_30, ty_31, ty_32, ty_33, ty_34, ty_35, ty_36, ty_37, ty_38, ty_39, ty_40, ty_41, ty_42, ty_43, ty_44, ty_45, ty_46, ty_47, ty_48, ty_49, ty_50, ty_51, ty_52, ty_53, ty_54, ty_55, ty_56, ty_57, ty_58, ty_59, ty_60, ty_61, ty_62, ty_63, ty_64, ty_65, ty_66, ty_67, ty_68, ty_69, ty_70, ty_71, ty_72, ty_73, ty_74, ty_75, ty_76, ty_77, ty_78, ty_79, ty_80, ty_81, ty_82, ty_83, ty_84, ty_85, ty_86, ty_87, ty_88, ty_89, ty_90, ty_91, ty_92, ty_93, ty_94, ty_95, ty_96, ty_97, ty_98, ty_99, pl_3_10, pl_4_3, pl_5_3, pl_10_9, pl_10_11, pl_10_13, pl_13_1, pl_13_7, pl_16_6, pl_18_6, pl_19_1, pl_27_6, pl_27_11, pl_33_17, pl_35_4, pl_35_6, pl_36_10, pl_37_10, pl_39_3, pl_40_5, pl_40_11, pl_40_16, pl_40_17, pl_40_22, pl_40_23, pl_42_1, pl_42_3, pl_42_5, pl_42_8, pl_43_1, pl_43_3, pl_43_5, pl_43_8, pl_43_10, pl_43_13, pl_43_15, pl_43_18, pl_43_21, pl_46_3, pl_46_5, pl_46_6, pl_48_1, pl_48_2, pl_48_3, pl_52_1, hty, hpl, e1, varS, bytesOf]
  generalize hy : evL E 24 _ _ = y
  obtain ⟨h2, e2⟩ := k24 _ _ _ _
  rw [e2] at hy
  subst hy
  have k9 := fun h => prim2_call (E := E) (f := 9) (a := ([] : List Bd)) (b := (Ty.mk [102, 117, 110] 0 [.mk varS 4 [], .mk varS 4 []])) (F := fun bs t => Sc.mk (genF (freeR bs []) (varsF t [])) t) (q := qGen) h9 (x := .sl .full []) (y := .agg [.str [102, 117, 110], .int .i64 0, .sl .full [.agg [.str varS, .int .i64 4, .sl .full []], .agg [.str varS, .int .i64 4, .sl .full []]]])
    (by simp [Enc.enc, wk_agg, wk_tup, wk_sl, wks_cons, wks_nil, wk_int, wk_str, wk_bool, own_no]) (by simp [Enc.enc, Ty.av, Ty.avs, wk_agg, wk_tup, wk_sl, wks_cons, wks_nil, wk_int, wk_str, wk_bool, own_no, varS]) (by
      refine ⟨⟨by simp, by simp, by simp [tsz]⟩, ⟨?_, by decide⟩, by simp [freeR]⟩
      simp [fit, fits]) h
  rw [show (Enc.enc (Sc.mk (genF (freeR [] []) (varsF (Ty.mk [102, 117, 110] 0 [.mk varS 4 [], .mk varS 4 []]) [])) (Ty.mk [102, 117, 110] 0 [.mk varS 4 [], .mk varS 4 []])) : AV) =
    .agg [.sl .no [.int .i64 4], .str [102, 117, 110], .int .i64 0, .sl .no [.agg [.str varS, .int .i64 4, .sl .no []], .agg [.str varS, .int .i64 4, .sl .no []]]] from rfl] at k9
  simp only [varS] at k9
  simp [cdL_seq, cdL_region, cdL_drawn, cdL_cond, cdL_block, cdL_skip, cdL_label, cdL_exit, cdL_ret, endL, evSeq, evOne, evAct, evOp, opKind, evPure, evRead, evNew, evWrite, evSlice, natOf, optVal, readAt, AV.cells, wantedA, putTm, val, allVals, evBin, evInt, evStr, evAppend, denseFrom, sizesAre, onesIn, evPlan, recheck, AV.beq_refl, H.new, H.put, fillF, fillAt, allOne, AV.one, setArgs, evRes, resOf, ofVal, ofVal0, blt_dec, ble_dec, beq_dec, T.get_set_ite, T.get_e, isShift, ikBeq, ty_0, ty_1, ty_2, ty_3, ty_4, ty_5, ty_6, ty_7, ty_8, ty_9, ty_10, ty_11, ty_12, ty_13, ty_14, ty_15, ty_16, ty_17, ty_18, ty_19, ty_20, ty_21, ty_22, ty_23, ty_24, ty_25, ty_26, ty_27, ty_28, ty_29, ty_30, ty_31, ty_32, ty_33, ty_34, ty_35, ty_36, ty_37, ty_38, ty_39, ty_40, ty_41, ty_42, ty_43, ty_44, ty_45, ty_46, ty_47, ty_48, ty_49, ty_50, ty_51, ty_52, ty_53, ty_54, ty_55, ty_56, ty_57, ty_58, ty_59, ty_60, ty_61, ty_62, ty_63, ty_64, ty_65, ty_66, ty_67, ty_68, ty_69, ty_70, ty_71, ty_72, ty_73, ty_74, ty_75, ty_76, ty_77, ty_78, ty_79, ty_80, ty_81, ty_82, ty_83, ty_84, ty_85, ty_86, ty_87, ty_88, ty_89, ty_90, ty_91, ty_92, ty_93, ty_94, ty_95, ty_96, ty_97, ty_98, ty_99, pl_3_10, pl_4_3, pl_5_3, pl_10_9, pl_10_11, pl_10_13, pl_13_1, pl_13_7, pl_16_6, pl_18_6, pl_19_1, pl_27_6, pl_27_11, pl_33_17, pl_35_4, pl_35_6, pl_36_10, pl_37_10, pl_39_3, pl_40_5, pl_40_11, pl_40_16, pl_40_17, pl_40_22, pl_40_23, pl_42_1, pl_42_3, pl_42_5, pl_42_8, pl_43_1, pl_43_3, pl_43_5, pl_43_8, pl_43_10, pl_43_13, pl_43_15, pl_43_18, pl_43_21, pl_46_3, pl_46_5, pl_46_6, pl_48_1, pl_48_2, pl_48_3, pl_52_1, hty, hpl, k9, intBeq]
end Go.Proofs.Ytcmbpfobdgijjaa.Env
/- The program's Look as a primitive. -/
set_option autoImplicit false
set_option maxRecDepth 100000
set_option linter.unusedSimpArgs false
set_option linter.unusedVariables false
set_option linter.unusedSectionVars false
namespace Go.Proofs.Ytcmbpfobdgijjaa.Env
open Go.Ev

theorem lookK_skip {bs : List Bd} {name : List Nat} : ∀ j, j ≤ bs.length → (∀ i ∈ downTo bs.length j, ∀ b, bs[i]? = some b → natsBeq b.name name = false) → lookK bs name bs.length = lookK bs name (bs.length - j)
  | 0, _, _ => rfl
  | j + 1, hj, h => by
    rw [lookK_skip j (by omega) fun i hi => h i (by rw [downTo_succ]; exact List.mem_append_left _ hi)]
    obtain ⟨m, hm⟩ : ∃ m, bs.length - j = m + 1 := ⟨bs.length - j - 1, by omega⟩
    rw [hm, show bs.length - (j + 1) = m by omega, lookK]
    have hlt : m < bs.length := by omega
    rw [List.getElem?_eq_getElem hlt]
    have := h m (by rw [downTo_succ]; exact List.mem_append_right _ (by simp; omega)) _ (List.getElem?_eq_getElem hlt)
    simp only [this, cond_false]
theorem downTo_lt {len k : Nat} : ∀ i ∈ downTo len k, k ≤ len → i < len := by
  intro i hi hk
  simp only [downTo, List.mem_map, List.mem_range] at hi
  obtain ⟨m, h1, rfl⟩ := hi
  omega
theorem slice_inv {G : Gh} {w : World} {V : Value} {o : Go.Ev.Own} {els : List AV} (r : VR G w V (.sl o els)) : ∃ p c, V = .slice p els.length c := by
  cases r with
  | sl0 A cap o hn h => exact ⟨A, cap, rfl⟩
  | sl b off len cap s o els f hl hc hs h1 h2 ho => exact ⟨_, cap, by rw [hl]⟩
theorem str_inv {G : Gh} {w : World} {V : Value} {l : List Nat} (r : VR G w V (.str l)) : ∃ s : ByteArray, V = .string s ∧ bytesOf s = l := by cases r; exact ⟨_, rfl, rfl⟩
theorem int_inv' {G : Gh} {w : World} {V : Value} {k : IntKind} {n : Int} (r : VR G w V (.int k n)) : V = .int k n := by cases r; rfl
theorem agg4 {G : Gh} {w : World} {v1 v2 v3 v4 : Value} {x1 x2 x3 x4 : AV} (c1 : VR G w v1 x1) (c2 : VR G w v2 x2) (c3 : VR G w v3 x3) (c4 : VR G w v4 x4) : VR G w (.agg #[v1, v2, v3, v4]) (.agg [x1, x2, x3, x4]) :=
  .agg _ _ rfl fun j v x hv hx => by
    match j with
    | 0 => simp at hv hx; rw [← hv, ← hx]; exact c1
    | 1 => simp at hv hx; rw [← hv, ← hx]; exact c2
    | 2 => simp at hv hx; rw [← hv, ← hx]; exact c3
    | 3 => simp at hv hx; rw [← hv, ← hx]; exact c4
    | j + 4 => simp at hv
/-- An env in memory. -/
theorem env_rows {G : Gh} {w : World} {V : Value} {bs : List Bd} (r : VR G w V (.sl .no (bds bs))) : ∃ A cap, V = .slice A bs.length cap ∧ ∃ (nm : Nat → ByteArray) (r1 r2 r3 r4 : Nat → Value),
    (∀ x, ∃ p1 l1 c1 s2 n3 p4 l4 c4, r1 x = .slice p1 l1 c1 ∧ r2 x = .string s2 ∧ r3 x = .int .i64 n3 ∧ r4 x = .slice p4 l4 c4) ∧
    Rows5 w.heap.size w V bs.length (fun i => .string (nm i)) r1 r2 r3 r4 ∧
    ∀ (i : Nat) b, bs[i]? = some b → bytesOf (nm i) = b.name ∧ VR G w (.agg #[r1 i, r2 i, r3 i, r4 i]) (scAV b.vars b.ty) := by
  obtain ⟨A, cap, e⟩ := slice_inv r
  rw [bds_len] at e
  refine ⟨A, cap, e, ?_⟩
  have dflt : ∀ x : Nat, ∃ p1 l1 c1 s2 n3 p4 l4 c4, (Value.slice none 0 0 : Value) = .slice p1 l1 c1 ∧ (Value.string ByteArray.empty) = .string s2 ∧ (Value.int .i64 0) = .int .i64 n3 ∧ (Value.slice none 0 0 : Value) = .slice p4 l4 c4 := fun _ => ⟨_, _, _, _, _, _, _, _, rfl, rfl, rfl, rfl⟩
  cases bs with
  | nil =>
    exact ⟨fun _ => ByteArray.empty, fun _ => .slice none 0 0, fun _ => .string ByteArray.empty, fun _ => .int .i64 0, fun _ => .slice none 0 0, dflt, .inl ⟨A, cap, e, rfl⟩, fun i b hb => by simp at hb⟩
  | cons b0 bs =>
    generalize hels : bds (b0 :: bs) = els at r
    generalize hl0 : b0 :: bs = L at *
    have hbl := bds_len L
    rw [hels] at hbl
    have hpos : 0 < L.length := by rw [← hl0]; simp
    cases r with
    | sl0 A' cap' o hn h => simp at hbl; omega
    | sl b off len cap' s o els f hl hc hs h1 h2 ho =>
      have hcell : ∀ (i : Nat) b, L[i]? = some b → ∃ t0 t1 t2, b.ty.av = .agg [.str t0, .int .i64 t1, .sl .no t2] ∧ VR G w (f i 0) (.str b.name) ∧ VR G w (f i 1) (.sl .no (ints b.vars)) ∧ VR G w (f i 2) (.str t0) ∧ VR G w (f i 3) (.int .i64 t1) ∧ VR G w (f i 4) (.sl .no t2) := by
        intro i b hb
        have hat := bds_get hb
        rw [hels] at hat
        obtain ⟨t0, t1, t2, ht⟩ := av_cells b.ty
        have hc : b.av.cells = [.str b.name, .sl .no (ints b.vars), .str t0, .int .i64 t1, .sl .no t2] := by simp only [Bd.av, AV.cells]; rw [ht]
        exact ⟨t0, t1, t2, ht, h2 i 0 _ _ hat (by rw [hc]; rfl), h2 i 1 _ _ hat (by rw [hc]; rfl), h2 i 2 _ _ hat (by rw [hc]; rfl), h2 i 3 _ _ hat (by rw [hc]; rfl), h2 i 4 _ _ hat (by rw [hc]; rfl)⟩
      have hs5 : s = 5 := by
        have hat := bds_get (l := L) (i := 0) (List.getElem?_eq_getElem hpos)
        rw [hels] at hat
        rw [← hs _ (List.mem_of_getElem? hat)]
        obtain ⟨t0, t1, t2, ht⟩ := av_cells (L[0]).ty
        simp only [Bd.av, AV.cells]; rw [ht]; rfl
      subst hs5
      have hLl : len = L.length := by omega
      -- per place
      have hat : ∀ i, ∃ (n : ByteArray) (v1 v2 v3 v4 : Value), (∃ p1 l1 c1 s2 n3 p4 l4 c4, v1 = .slice p1 l1 c1 ∧ v2 = .string s2 ∧ v3 = .int .i64 n3 ∧ v4 = .slice p4 l4 c4) ∧ (i < L.length → f i 0 = .string n ∧ f i 1 = v1 ∧ f i 2 = v2 ∧ f i 3 = v3 ∧ f i 4 = v4) := by
        intro i
        by_cases hi : i < L.length
        · obtain ⟨t0, t1, t2, ht, c0, c1, c2, c3, c4⟩ := hcell i _ (List.getElem?_eq_getElem hi)
          obtain ⟨s0, e0, _⟩ := str_inv c0
          obtain ⟨p1, d1, e1⟩ := slice_inv c1
          obtain ⟨s2, e2, _⟩ := str_inv c2
          obtain ⟨p4, d4, e4⟩ := slice_inv c4
          exact ⟨s0, _, _, _, _, ⟨p1, _, d1, s2, t1, p4, _, d4, rfl, rfl, rfl, rfl⟩, fun _ => ⟨e0, e1, e2, int_inv' c3, e4⟩⟩
        · exact ⟨ByteArray.empty, _, _, _, _, dflt i, fun h => absurd h hi⟩
      refine ⟨fun i => (hat i).choose, fun i => (hat i).choose_spec.choose, fun i => (hat i).choose_spec.choose_spec.choose, fun i => (hat i).choose_spec.choose_spec.choose_spec.choose, fun i => (hat i).choose_spec.choose_spec.choose_spec.choose_spec.choose, fun i => (hat i).choose_spec.choose_spec.choose_spec.choose_spec.choose_spec.1, .inr ⟨b, off, cap', by rw [hLl], ?_, fun i hi => ?_⟩, fun i b' hb' => ?_⟩
      · have := (h1 0 0 (by omega) (by omega)).1
        simp only [World.cell?] at this
        cases hh : w.heap[b]? with
        | none => rw [hh] at this; simp at this
        | some o => exact (Array.getElem?_eq_some_iff.1 hh).1
      · obtain ⟨e0, e1, e2, e3, e4⟩ := (hat i).choose_spec.choose_spec.choose_spec.choose_spec.choose_spec.2 hi
        have g0 := (h1 i 0 (by omega) (by omega)).1
        have g1 := (h1 i 1 (by omega) (by omega)).1
        have g2 := (h1 i 2 (by omega) (by omega)).1
        have g3 := (h1 i 3 (by omega) (by omega)).1
        have g4 := (h1 i 4 (by omega) (by omega)).1
        rw [e0, Nat.add_zero] at g0
        rw [e1] at g1
        rw [e2] at g2
        rw [e3] at g3
        rw [e4] at g4
        exact ⟨g0, g1, g2, g3, g4⟩
      · have hi : i < L.length := getElem?_lt hb'
        obtain ⟨e0, e1, e2, e3, e4⟩ := (hat i).choose_spec.choose_spec.choose_spec.choose_spec.choose_spec.2 hi
        obtain ⟨t0, t1, t2, ht, c0, c1, c2, c3, c4⟩ := hcell i _ hb'
        rw [e0] at c0
        rw [e1] at c1
        rw [e2] at c2
        rw [e3] at c3
        rw [e4] at c4
        obtain ⟨s0, q0, q1⟩ := str_inv c0
        cases q0
        refine ⟨q1, ?_⟩
        unfold scAV
        rw [ht]
        exact agg4 c1 c2 c3 c4
theorem pLook_ok : PrimOk Try.prog 14 pLook := primVal_direct' (fn := Try.f14) Try.func14 (by kernel_rfl) (by kernel_rfl) fun args v hv => by
  obtain ⟨bs, name, h1, hq, rfl⟩ := ofRel_some hv
  refine ⟨_, h1, fun G w A I hA => ?_⟩
  rw [show (Enc.enc bs : AV) = .sl .no (bds bs) from rfl, show (Enc.enc name : AV) = .str name.s from rfl] at hA
  obtain ⟨l⟩ := A
  obtain ⟨V0, l, rfl, r0, hA⟩ := hA.uncons
  obtain ⟨V1, l, rfl, r1, hA⟩ := hA.uncons
  have : l = [] := List.eq_nil_of_length_eq_zero hA.1
  subst this
  obtain ⟨s, rfl, hs⟩ := str_inv r1
  obtain ⟨A, cap, e, nm, q1, q2, q3, q4, hk, hR, hb⟩ := env_rows r0
  have hm : ∀ (i : Nat) b, bs[i]? = some b → natsBeq b.name name.s = ((nm i).toList == s.toList) := fun i b h => by rw [← (hb i b h).1, ← hs, natsBeq_eq, bytesOf_eq]
  refine (callsIn_wide.1 (look_in Fence.wide 3 trivial trivial trivial rfl (Nat.le_refl _) w V0 A cap bs.length e hq nm s q1 q2 q3 q4 hk hR)).mono ?_
  rintro e' w' ⟨hB, hcase⟩
  have hO : Old w w' := ⟨hB.os, hB.tape, hB.output, hB.size, fun j hj => hB.block j hj⟩
  rcases hcase with ⟨rfl, hn⟩ | ⟨k, x, hkl, hd, hn, hx, rfl⟩
  · refine ⟨_, rfl, hO, fun _ => ?_⟩
    have eF : lookF bs name = ⟨⟨[], .mk [] 0 []⟩, false⟩ := by
      show lookK bs name.s bs.length = _
      rw [lookK_skip bs.length (Nat.le_refl _) fun i hi b h => by rw [hm i b h]; exact hn i hi, Nat.sub_self]
      rfl
    rw [eF]
    refine .tup _ _ rfl fun j v x hv hx => ?_
    match j with
    | 0 =>
      simp at hv hx
      rw [← hv, ← hx]
      refine .agg _ _ rfl fun j v x hv hx => ?_
      match j with
      | 0 => simp [AV.cells, Ty.av] at hv hx; rw [← hv, ← hx]; exact .sl0 none 0 .no (fun _ => rfl) trivial
      | 1 => simp [AV.cells, Ty.av] at hv hx; rw [← hv, ← hx]; exact .str ByteArray.empty
      | 2 => simp [AV.cells, Ty.av] at hv hx; rw [← hv, ← hx]; exact .int _ _
      | 3 => simp [AV.cells, Ty.av] at hv hx; rw [← hv, ← hx]; exact .sl0 none 0 .no (fun _ => rfl) trivial
      | j + 4 => simp at hv
    | 1 => simp at hv hx; rw [← hv, ← hx]; exact .bool _
    | j + 2 => simp at hv
  · refine ⟨_, rfl, hO, fun _ => ?_⟩
    obtain ⟨k, rfl⟩ : ∃ k', k = k' + 1 := by
      cases k with
      | zero => exact absurd hd (by simp [downTo])
      | succ k => exact ⟨k, rfl⟩
    rw [downTo_succ] at hd
    simp only [Nat.add_sub_cancel] at hd hn
    have hxe : x = bs.length - 1 - k := by
      have := (List.append_inj' hd rfl).2
      simp at this
      omega
    have hxl : x < bs.length := by omega
    have hbx := List.getElem?_eq_getElem hxl
    generalize bs[x] = b at hbx
    have eF : lookF bs name = ⟨⟨b.vars, b.ty⟩, true⟩ := by
      show lookK bs name.s bs.length = _
      rw [lookK_skip k (by omega) fun i hi b h => by rw [hm i b h]; exact hn i hi, show bs.length - k = x + 1 by omega, lookK, hbx]
      simp only
      rw [hm x b hbx, hx]
      rfl
    rw [eF]
    have r := (hb x b hbx).2
    refine .tup _ _ rfl fun j v y hv hy => ?_
    match j with
    | 0 => simp at hv hy; rw [← hv, ← hy]; exact VR.old hO r (sc_bare 0 ⟨b.vars, b.ty⟩)
    | 1 => simp at hv hy; rw [← hv, ← hy]; exact .bool _
    | j + 2 => simp at hv
end Go.Proofs.Ytcmbpfobdgijjaa.Env
