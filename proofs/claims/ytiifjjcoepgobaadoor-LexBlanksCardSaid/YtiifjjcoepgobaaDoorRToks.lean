/- All tokens of a text: the reference's; two rows of tokens. -/
import Derived.Test.YtiifjjcoepgobaaDoorRPlain
set_option autoImplicit false
set_option maxRecDepth 100000
set_option linter.unusedSimpArgs false
set_option linter.unusedVariables false
namespace Go.Proofs.YtiifjjcoepgobaaDoor.Env
open Go.Ev

noncomputable def b9_0 : Code := loopOf Tryd.f9 0
theorem body9 : Tryd.f9.body = some (.seq (codeAt Tryd.f9 [0]) (.seq (codeAt Tryd.f9 [1, 0]) (.seq (codeAt Tryd.f9 [1, 1, 0]) (.seq (.seq (codeAt Tryd.f9 [1, 1, 1, 0, 0]) (.block 0 (.loop b9_0))) (codeAt Tryd.f9 [1, 1, 1, 1]))))) := rfl
structure R9 (s : List Nat) (a : Nat) (o : Own) (l : List AV) (tm : Tm) : Prop where
  g0 : tm.get 0 = some (.str s)
  g5 : tm.get 5 = some (.sl o l)
  g6 : tm.get 6 = some (.int .i64 ↑a)
theorem loop9 {s : List Nat} (hl : s.length ≤ 100000) : ∀ (f i : Nat) (o : Own) (l : List AV) {tm : Tm} {h : H} {x : Option (Ex × Tm × H)}, cdL env10 9 61 (.loop b9_0) tm h = x → s.length - i < f → i ≤ s.length → R9 s i o l tm → Row h o l → l.length ≤ i → Good l →
    match lx f s i l with
    | (l', none) => ∃ tm' h' o', x = some (.exit 0, tm', h') ∧ R9 s s.length o' l' tm' ∧ Row h' o' l' ∧ l'.length ≤ s.length ∧ Good l'
    | (l', some j) => ∃ tm' h', x = some (.ret, tm', h') ∧ tm'.get 2 = some (.sl .full []) ∧ tm'.get 3 = some (.int .i64 ↑j) ∧ tm'.get 4 = some (.int .i64 2)
  | 0, i, o, l, tm, h, x, hx, hf, _, _, _, _, _ => by omega
  | f + 1, i, o, l, tm, h, x, hx, hf, hi, R, hr, hli, hg => by
    have R0 := R
    obtain ⟨h0, h5, h6⟩ := R
    simp only [lx]
    cases hc : s[i]? with
    | none =>
      have hle : s.length ≤ i := List.getElem?_eq_none_iff.1 hc
      have : i = s.length := by omega
      subst this
      obtain ⟨R, hR, hx⟩ := loop_step hx
      simp [b9_0, loopOf, Tryd.f9, loops, cdL_seq, cdL_region, cdL_drawn, cdL_cond, cdL_block, cdL_skip, cdL_label, cdL_exit, cdL_ret, endL, evSeq, evOne, evAct, evOp, opKind, evPure, evRead, evNew, evWrite, evSlice, natOf, optVal, readAt, AV.cells, wantedA, putTm, val, allVals, evBin, evInt, evStr, evAppend, denseFrom, sizesAre, onesIn, evPlan, recheck, AV.beq_refl, H.new, H.put, fillF, fillAt, allOne, AV.one, setArgs, evRes, resOf, ofVal, ofVal0, blt_dec, ble_dec, beq_dec, T.get_set_ite, T.get_e, isShift, ikBeq, ty_0, ty_1, ty_2, ty_3, ty_4, ty_5, ty_6, ty_7, ty_8, ty_9, ty_10, ty_11, ty_12, ty_13, ty_14, ty_15, ty_16, ty_17, ty_18, ty_19, ty_20, ty_21, ty_22, ty_23, ty_24, ty_25, ty_26, ty_27, ty_28, ty_29, ty_30, ty_31, ty_32, ty_33, ty_34, ty_35, ty_36, ty_37, ty_38, ty_39, ty_40, ty_41, ty_42, ty_43, ty_44, ty_45, ty_46, ty_47, ty_48, ty_49, ty_50, ty_51, ty_52, ty_53, ty_54, ty_55, ty_56, ty_57, ty_58, ty_59, ty_60, ty_61, ty_62, ty_63, ty_64, ty_65, ty_66, ty_67, ty_68, ty_69, ty_70, ty_71, ty_72, ty_73, ty_74, ty_75, ty_76, ty_77, ty_78, ty_79, ty_80, ty_81, ty_82, ty_83, ty_84, ty_85, ty_86, ty_87, ty_88, ty_89, ty_90, pl_4_17, pl_7_6, pl_10_6, pl_15_6, pl_18_3, pl_28_5, pl_43_9, pl_43_18, pl_44_9, lp, e10ty, e10pl, h0, h5, h6, ltI_f] at hx
      exact ⟨_, h, o, hx.symm, ⟨by simp [T.get_set_ite, h0], by simp [T.get_set_ite, h5], by simp [T.get_set_ite, h6]⟩, hr, hli, hg⟩
    | some c =>
      have hlt := getElem?_lt hc
      have hlt' := ltI_t hlt
      have hw := wr_succ (i := i) (by omega)
      simp only
      cases hb : isBlank c with
      | true =>
        obtain ⟨R, hR, hx⟩ := loop_step hx
        unfold isBlank at hb
        have : x = R ((((tm.set 0 (.str s)).set 5 (.sl o l)).set 6 (.int .i64 (↑i + 1)))) h → True := fun _ => trivial
        cases e1 : intBeq ↑c 32 <;> cases e2 : intBeq ↑c 9 <;> cases e3 : intBeq ↑c 10 <;> simp [e1, e2, e3] at hb <;>
          simp [b9_0, loopOf, Tryd.f9, loops, cdL_seq, cdL_region, cdL_drawn, cdL_cond, cdL_block, cdL_skip, cdL_label, cdL_exit, cdL_ret, endL, evSeq, evOne, evAct, evOp, opKind, evPure, evRead, evNew, evWrite, evSlice, natOf, optVal, readAt, AV.cells, wantedA, putTm, val, allVals, evBin, evInt, evStr, evAppend, denseFrom, sizesAre, onesIn, evPlan, recheck, AV.beq_refl, H.new, H.put, fillF, fillAt, allOne, AV.one, setArgs, evRes, resOf, ofVal, ofVal0, blt_dec, ble_dec, beq_dec, T.get_set_ite, T.get_e, isShift, ikBeq, ty_0, ty_1, ty_2, ty_3, ty_4, ty_5, ty_6, ty_7, ty_8, ty_9, ty_10, ty_11, ty_12, ty_13, ty_14, ty_15, ty_16, ty_17, ty_18, ty_19, ty_20, ty_21, ty_22, ty_23, ty_24, ty_25, ty_26, ty_27, ty_28, ty_29, ty_30, ty_31, ty_32, ty_33, ty_34, ty_35, ty_36, ty_37, ty_38, ty_39, ty_40, ty_41, ty_42, ty_43, ty_44, ty_45, ty_46, ty_47, ty_48, ty_49, ty_50, ty_51, ty_52, ty_53, ty_54, ty_55, ty_56, ty_57, ty_58, ty_59, ty_60, ty_61, ty_62, ty_63, ty_64, ty_65, ty_66, ty_67, ty_68, ty_69, ty_70, ty_71, ty_72, ty_73, ty_74, ty_75, ty_76, ty_77, ty_78, ty_79, ty_80, ty_81, ty_82, ty_83, ty_84, ty_85, ty_86, ty_87, ty_88, ty_89, ty_90, pl_4_17, pl_7_6, pl_10_6, pl_15_6, pl_18_3, pl_28_5, pl_43_9, pl_43_18, pl_44_9, lp, e10ty, e10pl, h0, h5, h6, hlt', hc, e1, e2, e3, hw] at hx <;>
          (rw [hR] at hx
           exact loop9 hl f (i + 1) o l hx (by omega) hlt ⟨by simp [T.get_set_ite, h0], by simp [T.get_set_ite, h5], by simp [T.get_set_ite]⟩ hr (by omega) hg)
      | false =>
        obtain ⟨R, hR, hx⟩ := loop_step hx
        unfold isBlank at hb
        have hp : lenPos (s.drop i) = true := lenPos_iff.2 (by simp; omega)
        have w1 := fun h => e10_14 h _ hp
        have htk : (s.drop i).take (s.length - i) = s.drop i := by rw [← List.length_drop]; exact List.take_length
        rcases tokRes_cases hc with ⟨_, _, _, _, n0, _, hn0, hin, ht0⟩ | ⟨_, _, _, _, n0, _, ht0⟩
        · rcases rone_cases hc with ⟨x1, x2, x3, x4, n, e, hn, ht⟩ | ⟨x1, x2, x3, x4, e, ht⟩
          · rw [ht] at ht0 ⊢
            simp only [Option.some.injEq, Prod.mk.injEq] at ht0
            obtain ⟨_, rfl⟩ := ht0
            rw [e] at w1
            have hz : intBeq ↑n 0 = false := by rw [intBeq_eq]; simp; omega
            have hw2 : wr .i64 (↑i + ↑n) = ↑i + ↑n := by rw [wr_eq]; exact wrap_i64_in (by omega) (by omega)
            have hsz := good_sizes hg
            have hby : (l.length + 1) * 40 ≤ 140737488355328 := by omega
            cases e1 : intBeq ↑c 32 <;> cases e2 : intBeq ↑c 9 <;> cases e3 : intBeq ↑c 10 <;> simp [e1, e2, e3] at hb
            rcases hr with ⟨rfl, rfl⟩ | ⟨id, rfl, hch, hid⟩
            · simp [b9_0, loopOf, Tryd.f9, loops, cdL_seq, cdL_region, cdL_drawn, cdL_cond, cdL_block, cdL_skip, cdL_label, cdL_exit, cdL_ret, endL, evSeq, evOne, evAct, evOp, opKind, evPure, evRead, evNew, evWrite, evSlice, natOf, optVal, readAt, AV.cells, wantedA, putTm, val, allVals, evBin, evInt, evStr, evAppend, denseFrom, sizesAre, onesIn, evPlan, recheck, AV.beq_refl, H.new, H.put, fillF, fillAt, allOne, AV.one, setArgs, evRes, resOf, ofVal, ofVal0, blt_dec, ble_dec, beq_dec, T.get_set_ite, T.get_e, isShift, ikBeq, ty_0, ty_1, ty_2, ty_3, ty_4, ty_5, ty_6, ty_7, ty_8, ty_9, ty_10, ty_11, ty_12, ty_13, ty_14, ty_15, ty_16, ty_17, ty_18, ty_19, ty_20, ty_21, ty_22, ty_23, ty_24, ty_25, ty_26, ty_27, ty_28, ty_29, ty_30, ty_31, ty_32, ty_33, ty_34, ty_35, ty_36, ty_37, ty_38, ty_39, ty_40, ty_41, ty_42, ty_43, ty_44, ty_45, ty_46, ty_47, ty_48, ty_49, ty_50, ty_51, ty_52, ty_53, ty_54, ty_55, ty_56, ty_57, ty_58, ty_59, ty_60, ty_61, ty_62, ty_63, ty_64, ty_65, ty_66, ty_67, ty_68, ty_69, ty_70, ty_71, ty_72, ty_73, ty_74, ty_75, ty_76, ty_77, ty_78, ty_79, ty_80, ty_81, ty_82, ty_83, ty_84, ty_85, ty_86, ty_87, ty_88, ty_89, ty_90, pl_4_17, pl_7_6, pl_10_6, pl_15_6, pl_18_3, pl_28_5, pl_43_9, pl_43_18, pl_44_9, lp, e10ty, e10pl, h0, h5, h6, hlt', hc, e1, e2, e3, hi, htk, hw2, w1, hz] at hx
              rw [hR] at hx
              exact loop9 hl f (i + n) _ _ hx (by omega) hin ⟨by simp [T.get_set_ite, h0], by simp [T.get_set_ite], by simp [T.get_set_ite]⟩ (.inr ⟨h.nx + 1, rfl, by simp [T.get_set_ite], by simp⟩) (by simp; omega) (good_add hg ⟨_, _, _, _, rfl⟩)
            · have hne : id ≠ h.nx := by omega
              have hne' : h.nx ≠ id := by omega
              simp [b9_0, loopOf, Tryd.f9, loops, cdL_seq, cdL_region, cdL_drawn, cdL_cond, cdL_block, cdL_skip, cdL_label, cdL_exit, cdL_ret, endL, evSeq, evOne, evAct, evOp, opKind, evPure, evRead, evNew, evWrite, evSlice, natOf, optVal, readAt, AV.cells, wantedA, putTm, val, allVals, evBin, evInt, evStr, evAppend, denseFrom, sizesAre, onesIn, evPlan, recheck, AV.beq_refl, H.new, H.put, fillF, fillAt, allOne, AV.one, setArgs, evRes, resOf, ofVal, ofVal0, blt_dec, ble_dec, beq_dec, T.get_set_ite, T.get_e, isShift, ikBeq, ty_0, ty_1, ty_2, ty_3, ty_4, ty_5, ty_6, ty_7, ty_8, ty_9, ty_10, ty_11, ty_12, ty_13, ty_14, ty_15, ty_16, ty_17, ty_18, ty_19, ty_20, ty_21, ty_22, ty_23, ty_24, ty_25, ty_26, ty_27, ty_28, ty_29, ty_30, ty_31, ty_32, ty_33, ty_34, ty_35, ty_36, ty_37, ty_38, ty_39, ty_40, ty_41, ty_42, ty_43, ty_44, ty_45, ty_46, ty_47, ty_48, ty_49, ty_50, ty_51, ty_52, ty_53, ty_54, ty_55, ty_56, ty_57, ty_58, ty_59, ty_60, ty_61, ty_62, ty_63, ty_64, ty_65, ty_66, ty_67, ty_68, ty_69, ty_70, ty_71, ty_72, ty_73, ty_74, ty_75, ty_76, ty_77, ty_78, ty_79, ty_80, ty_81, ty_82, ty_83, ty_84, ty_85, ty_86, ty_87, ty_88, ty_89, ty_90, pl_4_17, pl_7_6, pl_10_6, pl_15_6, pl_18_3, pl_28_5, pl_43_9, pl_43_18, pl_44_9, lp, e10ty, e10pl, h0, h5, h6, hlt', hc, e1, e2, e3, hi, htk, hw2, w1, hz, hch, hne, hne', hsz, hby] at hx
              rw [hR] at hx
              exact loop9 hl f (i + n) _ _ hx (by omega) hin ⟨by simp [T.get_set_ite, h0], by simp [T.get_set_ite], by simp [T.get_set_ite]⟩ (.inr ⟨id, rfl, by simp [T.get_set_ite], by simp; omega⟩) (by simp; omega) (good_add hg ⟨_, _, _, _, rfl⟩)
          · rw [ht] at ht0; simp at ht0
        · rcases rone_cases hc with ⟨x1, x2, x3, x4, n, e, hn, ht⟩ | ⟨x1, x2, x3, x4, e, ht⟩
          · rw [ht] at ht0; simp at ht0
          · rw [ht]
            rw [e] at w1
            have hz : intBeq 0 0 = true := rfl
            cases e1 : intBeq ↑c 32 <;> cases e2 : intBeq ↑c 9 <;> cases e3 : intBeq ↑c 10 <;> simp [e1, e2, e3] at hb
            simp [b9_0, loopOf, Tryd.f9, loops, cdL_seq, cdL_region, cdL_drawn, cdL_cond, cdL_block, cdL_skip, cdL_label, cdL_exit, cdL_ret, endL, evSeq, evOne, evAct, evOp, opKind, evPure, evRead, evNew, evWrite, evSlice, natOf, optVal, readAt, AV.cells, wantedA, putTm, val, allVals, evBin, evInt, evStr, evAppend, denseFrom, sizesAre, onesIn, evPlan, recheck, AV.beq_refl, H.new, H.put, fillF, fillAt, allOne, AV.one, setArgs, evRes, resOf, ofVal, ofVal0, blt_dec, ble_dec, beq_dec, T.get_set_ite, T.get_e, isShift, ikBeq, ty_0, ty_1, ty_2, ty_3, ty_4, ty_5, ty_6, ty_7, ty_8, ty_9, ty_10, ty_11, ty_12, ty_13, ty_14, ty_15, ty_16, ty_17, ty_18, ty_19, ty_20, ty_21, ty_22, ty_23, ty_24, ty_25, ty_26, ty_27, ty_28, ty_29, ty_30, ty_31, ty_32, ty_33, ty_34, ty_35, ty_36, ty_37, ty_38, ty_39, ty_40, ty_41, ty_42, ty_43, ty_44, ty_45, ty_46, ty_47, ty_48, ty_49, ty_50, ty_51, ty_52, ty_53, ty_54, ty_55, ty_56, ty_57, ty_58, ty_59, ty_60, ty_61, ty_62, ty_63, ty_64, ty_65, ty_66, ty_67, ty_68, ty_69, ty_70, ty_71, ty_72, ty_73, ty_74, ty_75, ty_76, ty_77, ty_78, ty_79, ty_80, ty_81, ty_82, ty_83, ty_84, ty_85, ty_86, ty_87, ty_88, ty_89, ty_90, pl_4_17, pl_7_6, pl_10_6, pl_15_6, pl_18_3, pl_28_5, pl_43_9, pl_43_18, pl_44_9, lp, e10ty, e10pl, h0, h5, h6, hlt', hc, e1, e2, e3, hi, htk, w1, hz] at hx
            exact ⟨_, _, hx.symm, by simp [T.get_set_ite], by simp [T.get_set_ite], by simp [T.get_set_ite]⟩
theorem rtoks_run (s : List Nat) : ∃ v' h1, evL env10 9 [.str s] ⟨.e, 0⟩ = some (v', h1) ∧ v'.pure = true ∧ v'.forget = toks s := by
  rw [evL_fn env10 (by kernel_rfl) (by kernel_rfl) body9 _ _ rfl]
  simp only [codeAt, sub, Tryd.f9]
  unfold toks
  cases hb : ltI 2000 ↑s.length with
  | true =>
    simp [cdL_seq, cdL_region, cdL_drawn, cdL_cond, cdL_block, cdL_skip, cdL_label, cdL_exit, cdL_ret, endL, evSeq, evOne, evAct, evOp, opKind, evPure, evRead, evNew, evWrite, evSlice, natOf, optVal, readAt, AV.cells, wantedA, putTm, val, allVals, evBin, evInt, evStr, evAppend, denseFrom, sizesAre, onesIn, evPlan, recheck, AV.beq_refl, H.new, H.put, fillF, fillAt, allOne, AV.one, setArgs, evRes, resOf, ofVal, ofVal0, blt_dec, ble_dec, beq_dec, T.get_set_ite, T.get_e, isShift, ikBeq, ty_0, ty_1, ty_2, ty_3, ty_4, ty_5, ty_6, ty_7, ty_8, ty_9, ty_10, ty_11, ty_12, ty_13, ty_14, ty_15, ty_16, ty_17, ty_18, ty_19, ty_20, ty_21, ty_22, ty_23, ty_24, ty_25, ty_26, ty_27, ty_28, ty_29, ty_30, ty_31, ty_32, ty_33, ty_34, ty_35, ty_36, ty_37, ty_38, ty_39, ty_40, ty_41, ty_42, ty_43, ty_44, ty_45, ty_46, ty_47, ty_48, ty_49, ty_50, ty_51, ty_52, ty_53, ty_54, ty_55, ty_56, ty_57, ty_58, ty_59, ty_60, ty_61, ty_62, ty_63, ty_64, ty_65, ty_66, ty_67, ty_68, ty_69, ty_70, ty_71, ty_72, ty_73, ty_74, ty_75, ty_76, ty_77, ty_78, ty_79, ty_80, ty_81, ty_82, ty_83, ty_84, ty_85, ty_86, ty_87, ty_88, ty_89, ty_90, pl_4_17, pl_7_6, pl_10_6, pl_15_6, pl_18_3, pl_28_5, pl_43_9, pl_43_18, pl_44_9, e10ty, e10pl, hb]
    exact ⟨rfl, rfl⟩
  | false =>
    have hle : s.length ≤ 2000 := by rw [show (2000 : Int) = ((2000 : Nat) : Int) from rfl, ltI_nat] at hb; simpa using hb
    simp [cdL_seq, cdL_region, cdL_drawn, cdL_cond, cdL_block, cdL_skip, cdL_label, cdL_exit, cdL_ret, endL, evSeq, evOne, evAct, evOp, opKind, evPure, evRead, evNew, evWrite, evSlice, natOf, optVal, readAt, AV.cells, wantedA, putTm, val, allVals, evBin, evInt, evStr, evAppend, denseFrom, sizesAre, onesIn, evPlan, recheck, AV.beq_refl, H.new, H.put, fillF, fillAt, allOne, AV.one, setArgs, evRes, resOf, ofVal, ofVal0, blt_dec, ble_dec, beq_dec, T.get_set_ite, T.get_e, isShift, ikBeq, ty_0, ty_1, ty_2, ty_3, ty_4, ty_5, ty_6, ty_7, ty_8, ty_9, ty_10, ty_11, ty_12, ty_13, ty_14, ty_15, ty_16, ty_17, ty_18, ty_19, ty_20, ty_21, ty_22, ty_23, ty_24, ty_25, ty_26, ty_27, ty_28, ty_29, ty_30, ty_31, ty_32, ty_33, ty_34, ty_35, ty_36, ty_37, ty_38, ty_39, ty_40, ty_41, ty_42, ty_43, ty_44, ty_45, ty_46, ty_47, ty_48, ty_49, ty_50, ty_51, ty_52, ty_53, ty_54, ty_55, ty_56, ty_57, ty_58, ty_59, ty_60, ty_61, ty_62, ty_63, ty_64, ty_65, ty_66, ty_67, ty_68, ty_69, ty_70, ty_71, ty_72, ty_73, ty_74, ty_75, ty_76, ty_77, ty_78, ty_79, ty_80, ty_81, ty_82, ty_83, ty_84, ty_85, ty_86, ty_87, ty_88, ty_89, ty_90, pl_4_17, pl_7_6, pl_10_6, pl_15_6, pl_18_3, pl_28_5, pl_43_9, pl_43_18, pl_44_9, e10ty, e10pl, hb]
    generalize hx : cdL env10 9 61 (.loop b9_0) _ _ = x
    have L := loop9 (s := s) (by omega) (s.length + 1) 0 .full [] hx (by omega) (Nat.zero_le _) ⟨by simp [T.get_set_ite], by simp [T.get_set_ite], by simp [T.get_set_ite]⟩ (.inl ⟨rfl, rfl⟩) (Nat.zero_le _) (fun t ht => by simp at ht)
    rcases hq : lx (s.length + 1) s 0 [] with ⟨l', _ | j⟩
    · rw [hq] at L
      obtain ⟨tm', h', o', rfl, ⟨g0, g2, g3⟩, hr, hll, hg⟩ := L
      have hgp := good_pure hg
      have hsz := good_sizes hg
      have hby : (l'.length + 1) * 40 ≤ 140737488355328 := by omega
      rcases hr with ⟨rfl, rfl⟩ | ⟨id, rfl, hch, hid⟩
      · simp [cdL_seq, cdL_region, cdL_drawn, cdL_cond, cdL_block, cdL_skip, cdL_label, cdL_exit, cdL_ret, endL, evSeq, evOne, evAct, evOp, opKind, evPure, evRead, evNew, evWrite, evSlice, natOf, optVal, readAt, AV.cells, wantedA, putTm, val, allVals, evBin, evInt, evStr, evAppend, denseFrom, sizesAre, onesIn, evPlan, recheck, AV.beq_refl, H.new, H.put, fillF, fillAt, allOne, AV.one, setArgs, evRes, resOf, ofVal, ofVal0, blt_dec, ble_dec, beq_dec, T.get_set_ite, T.get_e, isShift, ikBeq, ty_0, ty_1, ty_2, ty_3, ty_4, ty_5, ty_6, ty_7, ty_8, ty_9, ty_10, ty_11, ty_12, ty_13, ty_14, ty_15, ty_16, ty_17, ty_18, ty_19, ty_20, ty_21, ty_22, ty_23, ty_24, ty_25, ty_26, ty_27, ty_28, ty_29, ty_30, ty_31, ty_32, ty_33, ty_34, ty_35, ty_36, ty_37, ty_38, ty_39, ty_40, ty_41, ty_42, ty_43, ty_44, ty_45, ty_46, ty_47, ty_48, ty_49, ty_50, ty_51, ty_52, ty_53, ty_54, ty_55, ty_56, ty_57, ty_58, ty_59, ty_60, ty_61, ty_62, ty_63, ty_64, ty_65, ty_66, ty_67, ty_68, ty_69, ty_70, ty_71, ty_72, ty_73, ty_74, ty_75, ty_76, ty_77, ty_78, ty_79, ty_80, ty_81, ty_82, ty_83, ty_84, ty_85, ty_86, ty_87, ty_88, ty_89, ty_90, pl_4_17, pl_7_6, pl_10_6, pl_15_6, pl_18_3, pl_28_5, pl_43_9, pl_43_18, pl_44_9, e10ty, e10pl, g0, g2, g3]
        exact ⟨rfl, rfl⟩
      · simp [cdL_seq, cdL_region, cdL_drawn, cdL_cond, cdL_block, cdL_skip, cdL_label, cdL_exit, cdL_ret, endL, evSeq, evOne, evAct, evOp, opKind, evPure, evRead, evNew, evWrite, evSlice, natOf, optVal, readAt, AV.cells, wantedA, putTm, val, allVals, evBin, evInt, evStr, evAppend, denseFrom, sizesAre, onesIn, evPlan, recheck, AV.beq_refl, H.new, H.put, fillF, fillAt, allOne, AV.one, setArgs, evRes, resOf, ofVal, ofVal0, blt_dec, ble_dec, beq_dec, T.get_set_ite, T.get_e, isShift, ikBeq, ty_0, ty_1, ty_2, ty_3, ty_4, ty_5, ty_6, ty_7, ty_8, ty_9, ty_10, ty_11, ty_12, ty_13, ty_14, ty_15, ty_16, ty_17, ty_18, ty_19, ty_20, ty_21, ty_22, ty_23, ty_24, ty_25, ty_26, ty_27, ty_28, ty_29, ty_30, ty_31, ty_32, ty_33, ty_34, ty_35, ty_36, ty_37, ty_38, ty_39, ty_40, ty_41, ty_42, ty_43, ty_44, ty_45, ty_46, ty_47, ty_48, ty_49, ty_50, ty_51, ty_52, ty_53, ty_54, ty_55, ty_56, ty_57, ty_58, ty_59, ty_60, ty_61, ty_62, ty_63, ty_64, ty_65, ty_66, ty_67, ty_68, ty_69, ty_70, ty_71, ty_72, ty_73, ty_74, ty_75, ty_76, ty_77, ty_78, ty_79, ty_80, ty_81, ty_82, ty_83, ty_84, ty_85, ty_86, ty_87, ty_88, ty_89, ty_90, pl_4_17, pl_7_6, pl_10_6, pl_15_6, pl_18_3, pl_28_5, pl_43_9, pl_43_18, pl_44_9, e10ty, e10pl, g0, g2, g3, hch, hsz, hby]
        have e1 : ∀ (a : List AV), AV.pures (l' ++ a) = AV.pures a := fun a => by rw [pures_append, hgp.1, Bool.true_and]
        have e2 : ∀ (a : List AV), AV.forgets (l' ++ a) = l' ++ AV.forgets a := fun a => by rw [forgets_map, List.map_append, ← forgets_map, ← forgets_map, hgp.2]
        simp [AV.pure, AV.pures, AV.forget, AV.forgets, e1, e2, endTok, tokA]
    · rw [hq] at L
      obtain ⟨tm', h', rfl, g2, g3, g4⟩ := L
      simp [cdL_seq, cdL_region, cdL_drawn, cdL_cond, cdL_block, cdL_skip, cdL_label, cdL_exit, cdL_ret, endL, evSeq, evOne, evAct, evOp, opKind, evPure, evRead, evNew, evWrite, evSlice, natOf, optVal, readAt, AV.cells, wantedA, putTm, val, allVals, evBin, evInt, evStr, evAppend, denseFrom, sizesAre, onesIn, evPlan, recheck, AV.beq_refl, H.new, H.put, fillF, fillAt, allOne, AV.one, setArgs, evRes, resOf, ofVal, ofVal0, blt_dec, ble_dec, beq_dec, T.get_set_ite, T.get_e, isShift, ikBeq, ty_0, ty_1, ty_2, ty_3, ty_4, ty_5, ty_6, ty_7, ty_8, ty_9, ty_10, ty_11, ty_12, ty_13, ty_14, ty_15, ty_16, ty_17, ty_18, ty_19, ty_20, ty_21, ty_22, ty_23, ty_24, ty_25, ty_26, ty_27, ty_28, ty_29, ty_30, ty_31, ty_32, ty_33, ty_34, ty_35, ty_36, ty_37, ty_38, ty_39, ty_40, ty_41, ty_42, ty_43, ty_44, ty_45, ty_46, ty_47, ty_48, ty_49, ty_50, ty_51, ty_52, ty_53, ty_54, ty_55, ty_56, ty_57, ty_58, ty_59, ty_60, ty_61, ty_62, ty_63, ty_64, ty_65, ty_66, ty_67, ty_68, ty_69, ty_70, ty_71, ty_72, ty_73, ty_74, ty_75, ty_76, ty_77, ty_78, ty_79, ty_80, ty_81, ty_82, ty_83, ty_84, ty_85, ty_86, ty_87, ty_88, ty_89, ty_90, pl_4_17, pl_7_6, pl_10_6, pl_15_6, pl_18_3, pl_28_5, pl_43_9, pl_43_18, pl_44_9, e10ty, e10pl, g2, g3, g4]
      exact ⟨rfl, rfl⟩

theorem pS_ok' {E : Env} (hE : EnvOk Tryd.prog E) {f : Nat} {fn : Func} {q : List Nat → Bool} {r : List Nat → AV} (hfn : Tryd.prog.funcs[f]? = some fn) (hnm : (fn.name == "runtime.NumGoroutine") = false) (hb : fn.body.isNone = false)
    (hr : ∀ s, q s = true → ∃ v' h1, evL E f [.str s] ⟨.e, 0⟩ = some (v', h1) ∧ v'.pure = true ∧ v'.forget = r s) : PrimOk Tryd.prog f (primPure (pS q r)) := by
  refine pureL_ok hE hfn hnm hb fun args v hv => ?_
  unfold pS at hv
  split at hv
  · rename_i s
    cases hq : q s with
    | false => rw [hq] at hv; simp at hv
    | true =>
      rw [hq] at hv
      simp only [cond_true, Option.some.injEq] at hv
      subst hv
      exact hr s hq
  · simp at hv
noncomputable def env11 : Env := addPrim (addPrim env10 8 (primPure (pS (fun _ => true) toks))) 9 (primPure (pS (fun _ => true) toks))
theorem env11_ok : EnvOk Tryd.prog env11 :=
  addPrim_ok (addPrim_ok env10_ok
    (pS_ok' env7_ok Tryd.func8 (by kernel_rfl) (by kernel_rfl) fun s h => toks_run s))
    (pS_ok' env10_ok Tryd.func9 (by kernel_rfl) (by kernel_rfl) fun s h => rtoks_run s)
theorem e11ty : env11.ty = env.ty := rfl
theorem e11pl : env11.plan = env.plan := rfl
theorem e11_8 (h : H) (s : List Nat) : evL env11 8 [.str s] h = some (toks s, h) := pS_call (q := fun _ => true) (r := toks) (by kernel_rfl) h s rfl
theorem e11_9 (h : H) (s : List Nat) : evL env11 9 [.str s] h = some (toks s, h) := pS_call (q := fun _ => true) (r := toks) (by kernel_rfl) h s rfl
theorem e11_11 (h : H) : evL env11 11 [] h = some (.bool true, h) := by
  rw [evL_prim env11 (f := 11) (p := primBool true) (by kernel_rfl)]; rfl
/-! ### Two rows that are one -/
noncomputable def b10_0 : Code := loopOf Tryd.f10 0
theorem body10 : Tryd.f10.body = some (.seq (codeAt Tryd.f10 [0]) (.seq (codeAt Tryd.f10 [1, 0]) (.seq (.seq (codeAt Tryd.f10 [1, 1, 0, 0]) (.block 0 (.loop b10_0))) (codeAt Tryd.f10 [1, 1, 1])))) := rfl
theorem loop10 {L : List AV} {o1 o2 : Own} (hl : L.length < 4611686018427387904) (hg : Good L) : ∀ (l : List AV) (i : Nat) {tm : Tm} {h : H} {x : Option (Ex × Tm × H)}, cdL env11 10 26 (.loop b10_0) tm h = x → l = L.drop i → i ≤ L.length →
    tm.get 0 = some (.sl o1 L) → tm.get 1 = some (.sl o2 L) → tm.get 5 = some (.int .i64 ↑i) → ∃ tm', x = some (.exit 0, tm', h)
  | [], i, tm, h, x, hx, hd, hi, h0, h1, h5 => by
    have hlen := dnil hd hi
    obtain ⟨R, hR, hx⟩ := loop_step hx
    simp [b10_0, loopOf, Tryd.f10, loops, cdL_seq, cdL_region, cdL_drawn, cdL_cond, cdL_block, cdL_skip, cdL_label, cdL_exit, cdL_ret, endL, evSeq, evOne, evAct, evOp, opKind, evPure, evRead, evNew, evWrite, evSlice, natOf, optVal, readAt, AV.cells, wantedA, putTm, val, allVals, evBin, evInt, evStr, evAppend, denseFrom, sizesAre, onesIn, evPlan, recheck, AV.beq_refl, H.new, H.put, fillF, fillAt, allOne, AV.one, setArgs, evRes, resOf, ofVal, ofVal0, blt_dec, ble_dec, beq_dec, T.get_set_ite, T.get_e, isShift, ikBeq, ty_0, ty_1, ty_2, ty_3, ty_4, ty_5, ty_6, ty_7, ty_8, ty_9, ty_10, ty_11, ty_12, ty_13, ty_14, ty_15, ty_16, ty_17, ty_18, ty_19, ty_20, ty_21, ty_22, ty_23, ty_24, ty_25, ty_26, ty_27, ty_28, ty_29, ty_30, ty_31, ty_32, ty_33, ty_34, ty_35, ty_36, ty_37, ty_38, ty_39, ty_40, ty_41, ty_42, ty_43, ty_44, ty_45, ty_46, ty_47, ty_48, ty_49, ty_50, ty_51, ty_52, ty_53, ty_54, ty_55, ty_56, ty_57, ty_58, ty_59, ty_60, ty_61, ty_62, ty_63, ty_64, ty_65, ty_66, ty_67, ty_68, ty_69, ty_70, ty_71, ty_72, ty_73, ty_74, ty_75, ty_76, ty_77, ty_78, ty_79, ty_80, ty_81, ty_82, ty_83, ty_84, ty_85, ty_86, ty_87, ty_88, ty_89, ty_90, pl_4_17, pl_7_6, pl_10_6, pl_15_6, pl_18_3, pl_28_5, pl_43_9, pl_43_18, pl_44_9, lp, e11ty, e11pl, h0, h1, h5, hlen, ltI_f] at hx
    exact ⟨_, hx.symm⟩
  | t :: l, i, tm, h, x, hx, hd, hi, h0, h1, h5 => by
    obtain ⟨hlt, hc, hd'⟩ := dcons hd
    obtain ⟨R, hR, hx⟩ := loop_step hx
    have hlt' := ltI_t hlt
    have hw := wr_succ (i := i) (by omega)
    obtain ⟨x1, x2, x3, x4, rfl⟩ := hg t (List.mem_of_getElem? hc)
    have q1 : ∀ n, intBeq n n = true := fun n => by rw [intBeq_eq]; simp
    simp [b10_0, loopOf, Tryd.f10, loops, cdL_seq, cdL_region, cdL_drawn, cdL_cond, cdL_block, cdL_skip, cdL_label, cdL_exit, cdL_ret, endL, evSeq, evOne, evAct, evOp, opKind, evPure, evRead, evNew, evWrite, evSlice, natOf, optVal, readAt, AV.cells, wantedA, putTm, val, allVals, evBin, evInt, evStr, evAppend, denseFrom, sizesAre, onesIn, evPlan, recheck, AV.beq_refl, H.new, H.put, fillF, fillAt, allOne, AV.one, setArgs, evRes, resOf, ofVal, ofVal0, blt_dec, ble_dec, beq_dec, T.get_set_ite, T.get_e, isShift, ikBeq, ty_0, ty_1, ty_2, ty_3, ty_4, ty_5, ty_6, ty_7, ty_8, ty_9, ty_10, ty_11, ty_12, ty_13, ty_14, ty_15, ty_16, ty_17, ty_18, ty_19, ty_20, ty_21, ty_22, ty_23, ty_24, ty_25, ty_26, ty_27, ty_28, ty_29, ty_30, ty_31, ty_32, ty_33, ty_34, ty_35, ty_36, ty_37, ty_38, ty_39, ty_40, ty_41, ty_42, ty_43, ty_44, ty_45, ty_46, ty_47, ty_48, ty_49, ty_50, ty_51, ty_52, ty_53, ty_54, ty_55, ty_56, ty_57, ty_58, ty_59, ty_60, ty_61, ty_62, ty_63, ty_64, ty_65, ty_66, ty_67, ty_68, ty_69, ty_70, ty_71, ty_72, ty_73, ty_74, ty_75, ty_76, ty_77, ty_78, ty_79, ty_80, ty_81, ty_82, ty_83, ty_84, ty_85, ty_86, ty_87, ty_88, ty_89, ty_90, pl_4_17, pl_7_6, pl_10_6, pl_15_6, pl_18_3, pl_28_5, pl_43_9, pl_43_18, pl_44_9, lp, e11ty, e11pl, h0, h1, h5, hlt', hc, hw, evFlat, cellEq, q1, natsBeq_refl] at hx
    rw [hR] at hx
    exact loop10 (o1 := o1) (o2 := o2) hl hg l (i + 1) hx hd' hlt (by simp [T.get_set_ite, h0]) (by simp [T.get_set_ite, h1]) (by simp [T.get_set_ite])
theorem same_run {L : List AV} {o1 o2 : Own} (hl : L.length < 4611686018427387904) (hg : Good L) (h : H) : ∃ h', evL env11 10 [.sl o1 L, .sl o2 L] h = some (.bool true, h') := by
  rw [evL_fn env11 (by kernel_rfl) (by kernel_rfl) body10 _ _ rfl]
  simp only [codeAt, sub, Tryd.f10]
  have q1 : ∀ n, intBeq n n = true := fun n => by rw [intBeq_eq]; simp
  simp [cdL_seq, cdL_region, cdL_drawn, cdL_cond, cdL_block, cdL_skip, cdL_label, cdL_exit, cdL_ret, endL, evSeq, evOne, evAct, evOp, opKind, evPure, evRead, evNew, evWrite, evSlice, natOf, optVal, readAt, AV.cells, wantedA, putTm, val, allVals, evBin, evInt, evStr, evAppend, denseFrom, sizesAre, onesIn, evPlan, recheck, AV.beq_refl, H.new, H.put, fillF, fillAt, allOne, AV.one, setArgs, evRes, resOf, ofVal, ofVal0, blt_dec, ble_dec, beq_dec, T.get_set_ite, T.get_e, isShift, ikBeq, ty_0, ty_1, ty_2, ty_3, ty_4, ty_5, ty_6, ty_7, ty_8, ty_9, ty_10, ty_11, ty_12, ty_13, ty_14, ty_15, ty_16, ty_17, ty_18, ty_19, ty_20, ty_21, ty_22, ty_23, ty_24, ty_25, ty_26, ty_27, ty_28, ty_29, ty_30, ty_31, ty_32, ty_33, ty_34, ty_35, ty_36, ty_37, ty_38, ty_39, ty_40, ty_41, ty_42, ty_43, ty_44, ty_45, ty_46, ty_47, ty_48, ty_49, ty_50, ty_51, ty_52, ty_53, ty_54, ty_55, ty_56, ty_57, ty_58, ty_59, ty_60, ty_61, ty_62, ty_63, ty_64, ty_65, ty_66, ty_67, ty_68, ty_69, ty_70, ty_71, ty_72, ty_73, ty_74, ty_75, ty_76, ty_77, ty_78, ty_79, ty_80, ty_81, ty_82, ty_83, ty_84, ty_85, ty_86, ty_87, ty_88, ty_89, ty_90, pl_4_17, pl_7_6, pl_10_6, pl_15_6, pl_18_3, pl_28_5, pl_43_9, pl_43_18, pl_44_9, e11ty, e11pl, q1]
  generalize hx : cdL env11 10 26 (.loop b10_0) _ _ = x
  obtain ⟨tm', rfl⟩ := loop10 (o1 := o1) (o2 := o2) hl hg L 0 hx rfl (Nat.zero_le _) (by simp [T.get_set_ite]) (by simp [T.get_set_ite]) (by simp [T.get_set_ite])
  simp [cdL_seq, cdL_region, cdL_drawn, cdL_cond, cdL_block, cdL_skip, cdL_label, cdL_exit, cdL_ret, endL, evSeq, evOne, evAct, evOp, opKind, evPure, evRead, evNew, evWrite, evSlice, natOf, optVal, readAt, AV.cells, wantedA, putTm, val, allVals, evBin, evInt, evStr, evAppend, denseFrom, sizesAre, onesIn, evPlan, recheck, AV.beq_refl, H.new, H.put, fillF, fillAt, allOne, AV.one, setArgs, evRes, resOf, ofVal, ofVal0, blt_dec, ble_dec, beq_dec, T.get_set_ite, T.get_e, isShift, ikBeq, ty_0, ty_1, ty_2, ty_3, ty_4, ty_5, ty_6, ty_7, ty_8, ty_9, ty_10, ty_11, ty_12, ty_13, ty_14, ty_15, ty_16, ty_17, ty_18, ty_19, ty_20, ty_21, ty_22, ty_23, ty_24, ty_25, ty_26, ty_27, ty_28, ty_29, ty_30, ty_31, ty_32, ty_33, ty_34, ty_35, ty_36, ty_37, ty_38, ty_39, ty_40, ty_41, ty_42, ty_43, ty_44, ty_45, ty_46, ty_47, ty_48, ty_49, ty_50, ty_51, ty_52, ty_53, ty_54, ty_55, ty_56, ty_57, ty_58, ty_59, ty_60, ty_61, ty_62, ty_63, ty_64, ty_65, ty_66, ty_67, ty_68, ty_69, ty_70, ty_71, ty_72, ty_73, ty_74, ty_75, ty_76, ty_77, ty_78, ty_79, ty_80, ty_81, ty_82, ty_83, ty_84, ty_85, ty_86, ty_87, ty_88, ty_89, ty_90, pl_4_17, pl_7_6, pl_10_6, pl_15_6, pl_18_3, pl_28_5, pl_43_9, pl_43_18, pl_44_9, e11ty, e11pl]

theorem lx_len {s : List Nat} : ∀ (f i : Nat) (l l' : List AV), l.length ≤ i → i ≤ s.length → lx f s i l = (l', none) → l'.length ≤ s.length
  | 0, i, l, l', hl, hi, h => by simp only [lx, Prod.mk.injEq] at h; rw [← h.1]; omega
  | f + 1, i, l, l', hl, hi, h => by
    simp only [lx] at h
    cases hc : s[i]? with
    | none => rw [hc] at h; simp only [Prod.mk.injEq] at h; rw [← h.1]; omega
    | some c =>
      have hlt := getElem?_lt hc
      rw [hc] at h
      simp only at h
      cases hb : isBlank c with
      | true => rw [hb] at h; exact lx_len f _ _ _ (by omega) hlt h
      | false =>
        rw [hb] at h
        simp only [cond_false] at h
        rcases tokRes_cases hc with ⟨x1, x2, x3, x4, n, e, hn, hin, ht⟩ | ⟨x1, x2, x3, x4, n, e, ht⟩
        · rw [ht] at h; exact lx_len f _ _ _ (by simp; omega) hin h
        · rw [ht] at h; simp at h
theorem law3 (s : List Nat) : ∃ h', evL env11 3 [.str s] ⟨.e, 0⟩ = some (.bool true, h') := by
  rw [evL_fn env11 (fn := Tryd.f3) (by kernel_rfl) (by kernel_rfl) rfl _ _ rfl]
  simp only [Tryd.f3]
  cases hb : ltI 2100 ↑s.length with
  | true => simp [cdL_seq, cdL_region, cdL_drawn, cdL_cond, cdL_block, cdL_skip, cdL_label, cdL_exit, cdL_ret, endL, evSeq, evOne, evAct, evOp, opKind, evPure, evRead, evNew, evWrite, evSlice, natOf, optVal, readAt, AV.cells, wantedA, putTm, val, allVals, evBin, evInt, evStr, evAppend, denseFrom, sizesAre, onesIn, evPlan, recheck, AV.beq_refl, H.new, H.put, fillF, fillAt, allOne, AV.one, setArgs, evRes, resOf, ofVal, ofVal0, blt_dec, ble_dec, beq_dec, T.get_set_ite, T.get_e, isShift, ikBeq, ty_0, ty_1, ty_2, ty_3, ty_4, ty_5, ty_6, ty_7, ty_8, ty_9, ty_10, ty_11, ty_12, ty_13, ty_14, ty_15, ty_16, ty_17, ty_18, ty_19, ty_20, ty_21, ty_22, ty_23, ty_24, ty_25, ty_26, ty_27, ty_28, ty_29, ty_30, ty_31, ty_32, ty_33, ty_34, ty_35, ty_36, ty_37, ty_38, ty_39, ty_40, ty_41, ty_42, ty_43, ty_44, ty_45, ty_46, ty_47, ty_48, ty_49, ty_50, ty_51, ty_52, ty_53, ty_54, ty_55, ty_56, ty_57, ty_58, ty_59, ty_60, ty_61, ty_62, ty_63, ty_64, ty_65, ty_66, ty_67, ty_68, ty_69, ty_70, ty_71, ty_72, ty_73, ty_74, ty_75, ty_76, ty_77, ty_78, ty_79, ty_80, ty_81, ty_82, ty_83, ty_84, ty_85, ty_86, ty_87, ty_88, ty_89, ty_90, pl_4_17, pl_7_6, pl_10_6, pl_15_6, pl_18_3, pl_28_5, pl_43_9, pl_43_18, pl_44_9, e11ty, e11pl, hb]
  | false =>
    have hle : s.length ≤ 2100 := by rw [show (2100 : Int) = ((2100 : Nat) : Int) from rfl, ltI_nat] at hb; simpa using hb
    have w8 := fun h => e11_8 h s
    have w9 := fun h => e11_9 h s
    have q1 : ∀ n, intBeq n n = true := fun n => by rw [intBeq_eq]; simp
    unfold toks at w8 w9
    cases hq2 : ltI 2000 ↑s.length with
    | true =>
      rw [hq2] at w8 w9
      obtain ⟨h', e⟩ := same_run (L := []) (o1 := .full) (o2 := .full) (by simp) (fun t h => by simp at h) ⟨.e, 0⟩
      simp [cdL_seq, cdL_region, cdL_drawn, cdL_cond, cdL_block, cdL_skip, cdL_label, cdL_exit, cdL_ret, endL, evSeq, evOne, evAct, evOp, opKind, evPure, evRead, evNew, evWrite, evSlice, natOf, optVal, readAt, AV.cells, wantedA, putTm, val, allVals, evBin, evInt, evStr, evAppend, denseFrom, sizesAre, onesIn, evPlan, recheck, AV.beq_refl, H.new, H.put, fillF, fillAt, allOne, AV.one, setArgs, evRes, resOf, ofVal, ofVal0, blt_dec, ble_dec, beq_dec, T.get_set_ite, T.get_e, isShift, ikBeq, ty_0, ty_1, ty_2, ty_3, ty_4, ty_5, ty_6, ty_7, ty_8, ty_9, ty_10, ty_11, ty_12, ty_13, ty_14, ty_15, ty_16, ty_17, ty_18, ty_19, ty_20, ty_21, ty_22, ty_23, ty_24, ty_25, ty_26, ty_27, ty_28, ty_29, ty_30, ty_31, ty_32, ty_33, ty_34, ty_35, ty_36, ty_37, ty_38, ty_39, ty_40, ty_41, ty_42, ty_43, ty_44, ty_45, ty_46, ty_47, ty_48, ty_49, ty_50, ty_51, ty_52, ty_53, ty_54, ty_55, ty_56, ty_57, ty_58, ty_59, ty_60, ty_61, ty_62, ty_63, ty_64, ty_65, ty_66, ty_67, ty_68, ty_69, ty_70, ty_71, ty_72, ty_73, ty_74, ty_75, ty_76, ty_77, ty_78, ty_79, ty_80, ty_81, ty_82, ty_83, ty_84, ty_85, ty_86, ty_87, ty_88, ty_89, ty_90, pl_4_17, pl_7_6, pl_10_6, pl_15_6, pl_18_3, pl_28_5, pl_43_9, pl_43_18, pl_44_9, e11ty, e11pl, hb, w8, w9, e, e11_11, q1]
    | false =>
      rw [hq2] at w8 w9
      simp only [cond_false] at w8 w9
      rcases hq : lx (s.length + 1) s 0 [] with ⟨l', _ | j⟩
      · rw [hq] at w8 w9
        have hg := lx_good _ _ _ _ (fun t h => by simp at h) hq
        have hll := lx_len (s.length + 1) 0 [] l' (Nat.le_refl 0) (Nat.zero_le _) hq
        obtain ⟨h', e⟩ := same_run (L := l' ++ [endTok s]) (o1 := .no) (o2 := .no) (by simp; omega) (good_add hg ⟨_, _, _, _, rfl⟩) ⟨.e, 0⟩
        simp [cdL_seq, cdL_region, cdL_drawn, cdL_cond, cdL_block, cdL_skip, cdL_label, cdL_exit, cdL_ret, endL, evSeq, evOne, evAct, evOp, opKind, evPure, evRead, evNew, evWrite, evSlice, natOf, optVal, readAt, AV.cells, wantedA, putTm, val, allVals, evBin, evInt, evStr, evAppend, denseFrom, sizesAre, onesIn, evPlan, recheck, AV.beq_refl, H.new, H.put, fillF, fillAt, allOne, AV.one, setArgs, evRes, resOf, ofVal, ofVal0, blt_dec, ble_dec, beq_dec, T.get_set_ite, T.get_e, isShift, ikBeq, ty_0, ty_1, ty_2, ty_3, ty_4, ty_5, ty_6, ty_7, ty_8, ty_9, ty_10, ty_11, ty_12, ty_13, ty_14, ty_15, ty_16, ty_17, ty_18, ty_19, ty_20, ty_21, ty_22, ty_23, ty_24, ty_25, ty_26, ty_27, ty_28, ty_29, ty_30, ty_31, ty_32, ty_33, ty_34, ty_35, ty_36, ty_37, ty_38, ty_39, ty_40, ty_41, ty_42, ty_43, ty_44, ty_45, ty_46, ty_47, ty_48, ty_49, ty_50, ty_51, ty_52, ty_53, ty_54, ty_55, ty_56, ty_57, ty_58, ty_59, ty_60, ty_61, ty_62, ty_63, ty_64, ty_65, ty_66, ty_67, ty_68, ty_69, ty_70, ty_71, ty_72, ty_73, ty_74, ty_75, ty_76, ty_77, ty_78, ty_79, ty_80, ty_81, ty_82, ty_83, ty_84, ty_85, ty_86, ty_87, ty_88, ty_89, ty_90, pl_4_17, pl_7_6, pl_10_6, pl_15_6, pl_18_3, pl_28_5, pl_43_9, pl_43_18, pl_44_9, e11ty, e11pl, hb, w8, w9, e, e11_11, q1]
      · rw [hq] at w8 w9
        obtain ⟨h', e⟩ := same_run (L := []) (o1 := .full) (o2 := .full) (by simp) (fun t h => by simp at h) ⟨.e, 0⟩
        simp [cdL_seq, cdL_region, cdL_drawn, cdL_cond, cdL_block, cdL_skip, cdL_label, cdL_exit, cdL_ret, endL, evSeq, evOne, evAct, evOp, opKind, evPure, evRead, evNew, evWrite, evSlice, natOf, optVal, readAt, AV.cells, wantedA, putTm, val, allVals, evBin, evInt, evStr, evAppend, denseFrom, sizesAre, onesIn, evPlan, recheck, AV.beq_refl, H.new, H.put, fillF, fillAt, allOne, AV.one, setArgs, evRes, resOf, ofVal, ofVal0, blt_dec, ble_dec, beq_dec, T.get_set_ite, T.get_e, isShift, ikBeq, ty_0, ty_1, ty_2, ty_3, ty_4, ty_5, ty_6, ty_7, ty_8, ty_9, ty_10, ty_11, ty_12, ty_13, ty_14, ty_15, ty_16, ty_17, ty_18, ty_19, ty_20, ty_21, ty_22, ty_23, ty_24, ty_25, ty_26, ty_27, ty_28, ty_29, ty_30, ty_31, ty_32, ty_33, ty_34, ty_35, ty_36, ty_37, ty_38, ty_39, ty_40, ty_41, ty_42, ty_43, ty_44, ty_45, ty_46, ty_47, ty_48, ty_49, ty_50, ty_51, ty_52, ty_53, ty_54, ty_55, ty_56, ty_57, ty_58, ty_59, ty_60, ty_61, ty_62, ty_63, ty_64, ty_65, ty_66, ty_67, ty_68, ty_69, ty_70, ty_71, ty_72, ty_73, ty_74, ty_75, ty_76, ty_77, ty_78, ty_79, ty_80, ty_81, ty_82, ty_83, ty_84, ty_85, ty_86, ty_87, ty_88, ty_89, ty_90, pl_4_17, pl_7_6, pl_10_6, pl_15_6, pl_18_3, pl_28_5, pl_43_9, pl_43_18, pl_44_9, e11ty, e11pl, hb, w8, w9, e, e11_11, q1]
end Go.Proofs.YtiifjjcoepgobaaDoor.Env
