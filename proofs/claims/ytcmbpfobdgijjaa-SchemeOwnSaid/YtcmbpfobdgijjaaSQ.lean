/- The program's Free: its loops. -/
import Derived.Test.YtcmbpfobdgijjaaSN
import Derived.Test.YtcmbpfobdgijjaaEwF
import Derived.Test.YtcmbpfobdgijjaaEwE
import Derived.Test.YtcmbpfobdgijjaaSShelf
set_option autoImplicit false
set_option maxRecDepth 100000
set_option linter.unusedSimpArgs false
set_option linter.unusedVariables false
set_option linter.unusedSectionVars false
namespace Go.Proofs.Ytcmbpfobdgijjaa.Env
open Go.Ev

/-- The vars of a scheme that stand for themselves, as they come; those of an env. -/
def ownV (own V : List Int) : List Int := V.filter fun v => !hasI own v
def freeS : List Bd → List Int
  | [] => []
  | b :: l => ownV b.vars (varsF b.ty []) ++ freeS l
noncomputable def b17_0 : Code := loopOf Try.f17 0
noncomputable def b17_1 : Code := loopOf Try.f17 1
theorem lb17_0 : b17_0 = (.seq (codeAt Try.f17 [1, 1, 0, 1, 0, 0, 0]) (.seq (codeAt Try.f17 [1, 1, 0, 1, 0, 0, 1, 0]) (.seq (.block 1 (.seq (codeAt Try.f17 [1, 1, 0, 1, 0, 0, 1, 1, 0, 0, 0]) (.seq (codeAt Try.f17 [1, 1, 0, 1, 0, 0, 1, 1, 0, 0, 1, 0]) (.block 2 (.loop b17_1))))) (codeAt Try.f17 [1, 1, 0, 1, 0, 0, 1, 1, 1])))) := rfl
theorem loop17_1 {E : Env} (hty : E.ty = env.ty) (hpl : E.plan = env.plan) (h21 : E.prim 21 = some pCont) {b : Bd} {V : List Int} {p : Nat} (hV : V.length ≤ 1000000) (hbv : b.vars.length ≤ 9223372036854775807) :
    ∀ (l : List Int) (j : Nat) (w : Own) (out : List Int) {tm : Tm} {h : H} {x : Option (Ex × Tm × H)}, cdL E 17 39 (.loop b17_1) tm h = x → l = V.drop j → j ≤ V.length → out.length + l.length ≤ 1000000 → RowE 3 1 h w (ints out) → h.t.get p = some (.cells b.av.cells) → p < h.nx →
    tm.get 3 = some (.sl w (ints out)) → tm.get 5 = some (.ptr (some (p, 0))) → tm.get 17 = some (.sl .no (ints V)) → tm.get 18 = some (.int .i64 ↑V.length) → tm.get 19 = some (.int .i64 ↑j) →
    ∃ tm' h' w', x = some (.exit 2, tm', h') ∧ tm'.get 3 = some (.sl w' (ints (out ++ ownV b.vars l))) ∧ RowE 3 1 h' w' (ints (out ++ ownV b.vars l)) ∧ ∀ k, k < 15 → k ≠ 3 → k ≠ 7 → tm'.get k = tm.get k
  | [], j, w, out, tm, h, x, hx, hd, hj, hlen, hr, hp, hpn, g3, g5, g17, g18, g19 => by
    have hl := dnil hd hj
    obtain ⟨R, hR, hx⟩ := loop_step hx
    simp [b17_1, loopOf, Try.f17, loops, cdL_seq, cdL_region, cdL_drawn, cdL_cond, cdL_block, cdL_skip, cdL_label, cdL_exit, cdL_ret, endL, evSeq, evOne, evAct, evOp, opKind, evPure, evRead, evNew, evWrite, evSlice, natOf, optVal, readAt, AV.cells, wantedA, putTm, val, allVals, evBin, evInt, evStr, evAppend, denseFrom, sizesAre, onesIn, evPlan, recheck, AV.beq_refl, H.new, H.put, fillF, fillAt, allOne, AV.one, setArgs, evRes, resOf, ofVal, ofVal0, blt_dec, ble_dec, beq_dec, T.get_set_ite, T.get_e, isShift, ikBeq, ty_0, ty_1, ty_2, ty_3, ty_4, ty_5, ty_6, ty_7, ty_8, ty_9, ty_10, ty_11, ty_12, ty_13, ty_14, ty_15, ty_16, ty_17, ty_18, ty_19, ty_20, ty_21, ty_22, ty_23, ty_24, ty_25, ty_26, ty_27, ty_28, ty_29, ty_30, ty_31, ty_32, ty_33, ty_34, ty_35, ty_36, ty_37, ty_38, ty_39, ty_40, ty_41, ty_42, ty_43, ty_44, ty_45, ty_46, ty_47, ty_48, ty_49, ty_50, ty_51, ty_52, ty_53, ty_54, ty_55, ty_56, ty_57, ty_58, ty_59, ty_60, ty_61, ty_62, ty_63, ty_64, ty_65, ty_66, ty_67, ty_68, ty_69, ty_70, ty_71, ty_72, ty_73, ty_74, ty_75, ty_76, ty_77, ty_78, ty_79, ty_80, ty_81, ty_82, ty_83, ty_84, ty_85, ty_86, ty_87, ty_88, ty_89, ty_90, ty_91, ty_92, ty_93, ty_94, ty_95, ty_96, ty_97, ty_98, ty_99, pl_3_10, pl_4_3, pl_5_3, pl_10_9, pl_10_11, pl_10_13, pl_13_1, pl_13_7, pl_16_6, pl_18_6, pl_19_1, pl_27_6, pl_27_11, pl_33_17, pl_35_4, pl_35_6, pl_36_10, pl_37_10, pl_39_3, pl_40_5, pl_40_11, pl_40_16, pl_40_17, pl_40_22, pl_40_23, pl_42_1, pl_42_3, pl_42_5, pl_42_8, pl_43_1, pl_43_3, pl_43_5, pl_43_8, pl_43_10, pl_43_13, pl_43_15, pl_43_18, pl_43_21, pl_46_3, pl_46_5, pl_46_6, pl_48_1, pl_48_2, pl_48_3, pl_52_1, lp, hty, hpl, g3, g5, g17, g18, g19, hl, ltI_f] at hx
    exact ⟨_, h, w, hx.symm, by simp [T.get_set_ite, g3, ownV], by simpa [ownV] using hr, fun k h1 h2 h3 => by simp only [T.get_set_ite]; repeat rw [if_neg (by omega)]⟩
  | v :: l, j, w, out, tm, h, x, hx, hd, hj, hlen, hr, hp, hpn, g3, g5, g17, g18, g19 => by
    obtain ⟨hlt, hc, hd'⟩ := dcons hd
    have hil := ints_len V
    have hic := ints_get hc
    have hlt' := ltI_t hlt
    have hw := wr_succ (i := j) (by omega)
    simp only [List.length_cons] at hlen
    have k1 := fun h => cCont (E := E) h21 .no b.vars v hbv h
    obtain ⟨a0, a1, a2, ha⟩ := av_cells b.ty
    have hp' := hp
    simp only [Bd.av] at hp
    rw [ha] at hp
    simp only [AV.cells] at hp
    obtain ⟨R, hR, hx⟩ := loop_step hx
    cases h1 : hasI b.vars v with
    | true =>
      have e : ownV b.vars (v :: l) = ownV b.vars l := by simp [ownV, h1]
      simp [b17_1, loopOf, Try.f17, loops, cdL_seq, cdL_region, cdL_drawn, cdL_cond, cdL_block, cdL_skip, cdL_label, cdL_exit, cdL_ret, endL, evSeq, evOne, evAct, evOp, opKind, evPure, evRead, evNew, evWrite, evSlice, natOf, optVal, readAt, AV.cells, wantedA, putTm, val, allVals, evBin, evInt, evStr, evAppend, denseFrom, sizesAre, onesIn, evPlan, recheck, AV.beq_refl, H.new, H.put, fillF, fillAt, allOne, AV.one, setArgs, evRes, resOf, ofVal, ofVal0, blt_dec, ble_dec, beq_dec, T.get_set_ite, T.get_e, isShift, ikBeq, ty_0, ty_1, ty_2, ty_3, ty_4, ty_5, ty_6, ty_7, ty_8, ty_9, ty_10, ty_11, ty_12, ty_13, ty_14, ty_15, ty_16, ty_17, ty_18, ty_19, ty_20, ty_21, ty_22, ty_23, ty_24, ty_25, ty_26, ty_27, ty_28, ty_29, ty_30, ty_31, ty_32, ty_33, ty_34, ty_35, ty_36, ty_37, ty_38, ty_39, ty_40, ty_41, ty_42, ty_43, ty_44, ty_45, ty_46, ty_47, ty_48, ty_49, ty_50, ty_51, ty_52, ty_53, ty_54, ty_55, ty_56, ty_57, ty_58, ty_59, ty_60, ty_61, ty_62, ty_63, ty_64, ty_65, ty_66, ty_67, ty_68, ty_69, ty_70, ty_71, ty_72, ty_73, ty_74, ty_75, ty_76, ty_77, ty_78, ty_79, ty_80, ty_81, ty_82, ty_83, ty_84, ty_85, ty_86, ty_87, ty_88, ty_89, ty_90, ty_91, ty_92, ty_93, ty_94, ty_95, ty_96, ty_97, ty_98, ty_99, pl_3_10, pl_4_3, pl_5_3, pl_10_9, pl_10_11, pl_10_13, pl_13_1, pl_13_7, pl_16_6, pl_18_6, pl_19_1, pl_27_6, pl_27_11, pl_33_17, pl_35_4, pl_35_6, pl_36_10, pl_37_10, pl_39_3, pl_40_5, pl_40_11, pl_40_16, pl_40_17, pl_40_22, pl_40_23, pl_42_1, pl_42_3, pl_42_5, pl_42_8, pl_43_1, pl_43_3, pl_43_5, pl_43_8, pl_43_10, pl_43_13, pl_43_15, pl_43_18, pl_43_21, pl_46_3, pl_46_5, pl_46_6, pl_48_1, pl_48_2, pl_48_3, pl_52_1, lp, hty, hpl, g3, g5, g17, g18, g19, hlt', hic, hp, k1, h1, hw] at hx
      rw [hR] at hx
      rw [e]
      obtain ⟨tm', h', w', q1, q2, q3, q4⟩ := loop17_1 hty hpl h21 (b := b) (p := p) hV hbv l (j + 1) w out hx hd' hlt (by omega) hr hp' hpn (by simp [T.get_set_ite, g3]) (by simp [T.get_set_ite, g5]) (by simp [T.get_set_ite, g17]) (by simp [T.get_set_ite, g18]) (by simp [T.get_set_ite])
      refine ⟨tm', h', w', q1, q2, q3, fun k k1 k2 k3 => ?_⟩
      rw [q4 k k1 k2 k3]
      simp only [T.get_set_ite]
      repeat rw [if_neg (by omega)]
    | false =>
      have e : ownV b.vars (v :: l) = v :: ownV b.vars l := by simp [ownV, h1]
      obtain ⟨w2, h2, e2, r2, n2, x2, f2⟩ := app_intsF (ys := [v]) (by simp; omega) hr
      have hwp : w ≠ .ch p := by
        rcases hr with ⟨rfl, _⟩ | ⟨id, rfl, hg, _⟩
        · simp
        · rintro ⟨⟩; rw [hp] at hg; cases hg
      have hp2 : h2.t.get p = some (.cells b.av.cells) := by rw [f2 p hpn hwp]; exact hp'
      have zv : ints [v] = [.int .i64 v] := rfl
      rw [zv] at e2
      simp [b17_1, loopOf, Try.f17, loops, cdL_seq, cdL_region, cdL_drawn, cdL_cond, cdL_block, cdL_skip, cdL_label, cdL_exit, cdL_ret, endL, evSeq, evOne, evAct, evOp, opKind, evPure, evRead, evNew, evWrite, evSlice, natOf, optVal, readAt, AV.cells, wantedA, putTm, val, allVals, evBin, evInt, evStr, evAppend, denseFrom, sizesAre, onesIn, evPlan, recheck, AV.beq_refl, H.new, H.put, fillF, fillAt, allOne, AV.one, setArgs, evRes, resOf, ofVal, ofVal0, blt_dec, ble_dec, beq_dec, T.get_set_ite, T.get_e, isShift, ikBeq, ty_0, ty_1, ty_2, ty_3, ty_4, ty_5, ty_6, ty_7, ty_8, ty_9, ty_10, ty_11, ty_12, ty_13, ty_14, ty_15, ty_16, ty_17, ty_18, ty_19, ty_20, ty_21, ty_22, ty_23, ty_24, ty_25, ty_26, ty_27, ty_28, ty_29, ty_30, ty_31, ty_32, ty_33, ty_34, ty_35, ty_36, ty_37, ty_38, ty_39, ty_40, ty_41, ty_42, ty_43, ty_44, ty_45, ty_46, ty_47, ty_48, ty_49, ty_50, ty_51, ty_52, ty_53, ty_54, ty_55, ty_56, ty_57, ty_58, ty_59, ty_60, ty_61, ty_62, ty_63, ty_64, ty_65, ty_66, ty_67, ty_68, ty_69, ty_70, ty_71, ty_72, ty_73, ty_74, ty_75, ty_76, ty_77, ty_78, ty_79, ty_80, ty_81, ty_82, ty_83, ty_84, ty_85, ty_86, ty_87, ty_88, ty_89, ty_90, ty_91, ty_92, ty_93, ty_94, ty_95, ty_96, ty_97, ty_98, ty_99, pl_3_10, pl_4_3, pl_5_3, pl_10_9, pl_10_11, pl_10_13, pl_13_1, pl_13_7, pl_16_6, pl_18_6, pl_19_1, pl_27_6, pl_27_11, pl_33_17, pl_35_4, pl_35_6, pl_36_10, pl_37_10, pl_39_3, pl_40_5, pl_40_11, pl_40_16, pl_40_17, pl_40_22, pl_40_23, pl_42_1, pl_42_3, pl_42_5, pl_42_8, pl_43_1, pl_43_3, pl_43_5, pl_43_8, pl_43_10, pl_43_13, pl_43_15, pl_43_18, pl_43_21, pl_46_3, pl_46_5, pl_46_6, pl_48_1, pl_48_2, pl_48_3, pl_52_1, lp, hty, hpl, g3, g5, g17, g18, g19, hlt', hic, hp, k1, h1, hw, e2, -evAppend] at hx
      rw [hR] at hx
      obtain ⟨tm', h', w', q1, q2, q3, q4⟩ := loop17_1 hty hpl h21 (b := b) (p := p) hV hbv l (j + 1) w2 (out ++ [v]) hx hd' hlt (by simp; omega) r2 hp2 (by omega) (by simp [T.get_set_ite]) (by simp [T.get_set_ite, g5]) (by simp [T.get_set_ite, g17]) (by simp [T.get_set_ite, g18]) (by simp [T.get_set_ite])
      rw [e]
      refine ⟨tm', h', w', q1, by simpa using q2, by simpa using q3, fun k k1 k2 k3 => ?_⟩
      rw [q4 k k1 k2 k3]
      simp only [T.get_set_ite]
      repeat rw [if_neg (by omega)]
theorem ownV_len (own V : List Int) : (ownV own V).length ≤ V.length := List.length_filter_le ..
theorem loop17_0 {E : Env} (hty : E.ty = env.ty) (hpl : E.plan = env.plan) (h20 : E.prim 20 = some pTVars) (h21 : E.prim 21 = some pCont) {bs : List Bd} (hl : bs.length ≤ 9223372036854775806) (hf : ∀ b ∈ bs, b.fit ∧ size b.ty ≤ 1000000) :
    ∀ (l : List Bd) (i : Nat) (w : Own) (out : List Int) {tm : Tm} {h : H} {x : Option (Ex × Tm × H)}, cdL E 17 39 (.loop b17_0) tm h = x → l = bs.drop i → i ≤ bs.length → out.length + tsz l ≤ 1000000 → RowE 3 1 h w (ints out) →
    tm.get 8 = some (.sl .no (bds bs)) → tm.get 9 = some (.int .i64 ↑bs.length) → tm.get 10 = some (.int .i64 ↑i) → tm.get 3 = some (.sl w (ints out)) →
    ∃ tm' h' w', x = some (.exit 0, tm', h') ∧ tm'.get 3 = some (.sl w' (ints (out ++ freeS l))) ∧ RowE 3 1 h' w' (ints (out ++ freeS l))
  | [], i, w, out, tm, h, x, hx, hd, hi, hlen, hr, g8, g9, g10, g3 => by
    have hl' := dnil hd hi
    obtain ⟨R, hR, hx⟩ := loop_step hx
    rw [lb17_0] at hx
    simp only [codeAt, sub, Try.f17] at hx
    simp [cdL_seq, cdL_region, cdL_drawn, cdL_cond, cdL_block, cdL_skip, cdL_label, cdL_exit, cdL_ret, endL, evSeq, evOne, evAct, evOp, opKind, evPure, evRead, evNew, evWrite, evSlice, natOf, optVal, readAt, AV.cells, wantedA, putTm, val, allVals, evBin, evInt, evStr, evAppend, denseFrom, sizesAre, onesIn, evPlan, recheck, AV.beq_refl, H.new, H.put, fillF, fillAt, allOne, AV.one, setArgs, evRes, resOf, ofVal, ofVal0, blt_dec, ble_dec, beq_dec, T.get_set_ite, T.get_e, isShift, ikBeq, ty_0, ty_1, ty_2, ty_3, ty_4, ty_5, ty_6, ty_7, ty_8, ty_9, ty_10, ty_11, ty_12, ty_13, ty_14, ty_15, ty_16, ty_17, ty_18, ty_19, ty_20, ty_21, ty_22, ty_23, ty_24, ty_25, ty_26, ty_27, ty_28, ty_29, ty_30, ty_31, ty_32, ty_33, ty_34, ty_35, ty_36, ty_37, ty_38, ty_39, ty_40, ty_41, ty_42, ty_43, ty_44, ty_45, ty_46, ty_47, ty_48, ty_49, ty_50, ty_51, ty_52, ty_53, ty_54, ty_55, ty_56, ty_57, ty_58, ty_59, ty_60, ty_61, ty_62, ty_63, ty_64, ty_65, ty_66, ty_67, ty_68, ty_69, ty_70, ty_71, ty_72, ty_73, ty_74, ty_75, ty_76, ty_77, ty_78, ty_79, ty_80, ty_81, ty_82, ty_83, ty_84, ty_85, ty_86, ty_87, ty_88, ty_89, ty_90, ty_91, ty_92, ty_93, ty_94, ty_95, ty_96, ty_97, ty_98, ty_99, pl_3_10, pl_4_3, pl_5_3, pl_10_9, pl_10_11, pl_10_13, pl_13_1, pl_13_7, pl_16_6, pl_18_6, pl_19_1, pl_27_6, pl_27_11, pl_33_17, pl_35_4, pl_35_6, pl_36_10, pl_37_10, pl_39_3, pl_40_5, pl_40_11, pl_40_16, pl_40_17, pl_40_22, pl_40_23, pl_42_1, pl_42_3, pl_42_5, pl_42_8, pl_43_1, pl_43_3, pl_43_5, pl_43_8, pl_43_10, pl_43_13, pl_43_15, pl_43_18, pl_43_21, pl_46_3, pl_46_5, pl_46_6, pl_48_1, pl_48_2, pl_48_3, pl_52_1, lp, hty, hpl, g8, g9, g10, g3, hl', ltI_f] at hx
    exact ⟨_, h, w, hx.symm, by simp [T.get_set_ite, g3, freeS], by simpa [freeS] using hr⟩
  | b :: l, i, w, out, tm, h, x, hx, hd, hi, hlen, hr, g8, g9, g10, g3 => by
    obtain ⟨hlt, hc, hd'⟩ := dcons hd
    have hat := bds_get hc
    have hlt' := ltI_t hlt
    have hw := wr_succ (i := i) (by omega)
    obtain ⟨hbf, hbs⟩ := hf b (List.mem_of_getElem? hc)
    simp only [tsz] at hlen
    have hvl := varsF_len b.ty []
    simp only [List.length_nil, Nat.zero_add] at hvl
    have k20 := fun h => cTVars (E := E) h20 (x := b.ty.av) (Ty.av_bare 0 b.ty) hbf.2 (by omega) h
    have hvl2 := ints_len (varsF b.ty [])
    obtain ⟨a0, a1, a2, ha⟩ := av_cells b.ty
    have hav : b.av.cells = .str b.name :: .sl .no (ints b.vars) :: [.str a0, .int .i64 a1, .sl .no a2] := by simp only [Bd.av, AV.cells]; rw [ha]
    simp only [Bd.av] at hat
    rw [ha] at hat k20
    simp only [AV.cells] at hat
    obtain ⟨R, hR, hx⟩ := loop_step hx
    rw [lb17_0] at hx
    simp only [codeAt, sub, Try.f17] at hx
    simp [cdL_seq, cdL_region, cdL_drawn, cdL_cond, cdL_block, cdL_skip, cdL_label, cdL_exit, cdL_ret, endL, evSeq, evOne, evAct, evOp, opKind, evPure, evRead, evNew, evWrite, evSlice, natOf, optVal, readAt, AV.cells, wantedA, putTm, val, allVals, evBin, evInt, evStr, evAppend, denseFrom, sizesAre, onesIn, evPlan, recheck, AV.beq_refl, H.new, H.put, fillF, fillAt, allOne, AV.one, setArgs, evRes, resOf, ofVal, ofVal0, blt_dec, ble_dec, beq_dec, T.get_set_ite, T.get_e, isShift, ikBeq, ty_0, ty_1, ty_2, ty_3, ty_4, ty_5, ty_6, ty_7, ty_8, ty_9, ty_10, ty_11, ty_12, ty_13, ty_14, ty_15, ty_16, ty_17, ty_18, ty_19, ty_20, ty_21, ty_22, ty_23, ty_24, ty_25, ty_26, ty_27, ty_28, ty_29, ty_30, ty_31, ty_32, ty_33, ty_34, ty_35, ty_36, ty_37, ty_38, ty_39, ty_40, ty_41, ty_42, ty_43, ty_44, ty_45, ty_46, ty_47, ty_48, ty_49, ty_50, ty_51, ty_52, ty_53, ty_54, ty_55, ty_56, ty_57, ty_58, ty_59, ty_60, ty_61, ty_62, ty_63, ty_64, ty_65, ty_66, ty_67, ty_68, ty_69, ty_70, ty_71, ty_72, ty_73, ty_74, ty_75, ty_76, ty_77, ty_78, ty_79, ty_80, ty_81, ty_82, ty_83, ty_84, ty_85, ty_86, ty_87, ty_88, ty_89, ty_90, ty_91, ty_92, ty_93, ty_94, ty_95, ty_96, ty_97, ty_98, ty_99, pl_3_10, pl_4_3, pl_5_3, pl_10_9, pl_10_11, pl_10_13, pl_13_1, pl_13_7, pl_16_6, pl_18_6, pl_19_1, pl_27_6, pl_27_11, pl_33_17, pl_35_4, pl_35_6, pl_36_10, pl_37_10, pl_39_3, pl_40_5, pl_40_11, pl_40_16, pl_40_17, pl_40_22, pl_40_23, pl_42_1, pl_42_3, pl_42_5, pl_42_8, pl_43_1, pl_43_3, pl_43_5, pl_43_8, pl_43_10, pl_43_13, pl_43_15, pl_43_18, pl_43_21, pl_46_3, pl_46_5, pl_46_6, pl_48_1, pl_48_2, pl_48_3, pl_52_1, lp, hty, hpl, g8, g9, g10, g3, hlt', hat, k20, hvl2] at hx
    generalize hy : cdL E 17 39 (.loop b17_1) _ _ = y at hx
    have hrN : ∀ (h2 : H), h2.nx = h.nx + 1 → (∀ j, j < h.nx → h2.t.get j = h.t.get j) → RowE 3 1 h2 w (ints out) := fun h2 q1 q2 => by
      rcases hr with e | ⟨id, e, hg, hi⟩
      · exact .inl e
      · exact .inr ⟨id, e, by rw [q2 id hi]; exact hg, by omega⟩
    obtain ⟨tm2, h2, w2, rfl, q3, q4, q5⟩ := loop17_1 hty hpl h21 (b := b) (V := varsF b.ty []) (p := h.nx) (by omega) hbf.1 (varsF b.ty []) 0 w out hy rfl (Nat.zero_le _) (by omega) (hrN _ (by simp) fun j hj => by simp only [T.get_set_ite]; repeat rw [if_neg (by omega)]) (by simp [T.get_set_ite, hav]) (by simp) (by simp [T.get_set_ite, g3]) (by simp [T.get_set_ite]) (by simp [T.get_set_ite]) (by simp [T.get_set_ite]) (by simp [T.get_set_ite])
    have p8 := q5 8 (by omega) (by omega) (by omega)
    have p9 := q5 9 (by omega) (by omega) (by omega)
    have p10 := q5 10 (by omega) (by omega) (by omega)
    simp [T.get_set_ite, g8, g9, g10] at p8 p9 p10
    simp [cdL_seq, cdL_region, cdL_drawn, cdL_cond, cdL_block, cdL_skip, cdL_label, cdL_exit, cdL_ret, endL, evSeq, evOne, evAct, evOp, opKind, evPure, evRead, evNew, evWrite, evSlice, natOf, optVal, readAt, AV.cells, wantedA, putTm, val, allVals, evBin, evInt, evStr, evAppend, denseFrom, sizesAre, onesIn, evPlan, recheck, AV.beq_refl, H.new, H.put, fillF, fillAt, allOne, AV.one, setArgs, evRes, resOf, ofVal, ofVal0, blt_dec, ble_dec, beq_dec, T.get_set_ite, T.get_e, isShift, ikBeq, ty_0, ty_1, ty_2, ty_3, ty_4, ty_5, ty_6, ty_7, ty_8, ty_9, ty_10, ty_11, ty_12, ty_13, ty_14, ty_15, ty_16, ty_17, ty_18, ty_19, ty_20, ty_21, ty_22, ty_23, ty_24, ty_25, ty_26, ty_27, ty_28, ty_29, ty_30, ty_31, ty_32, ty_33, ty_34, ty_35, ty_36, ty_37, ty_38, ty_39, ty_40, ty_41, ty_42, ty_43, ty_44, ty_45, ty_46, ty_47, ty_48, ty_49, ty_50, ty_51, ty_52, ty_53, ty_54, ty_55, ty_56, ty_57, ty_58, ty_59, ty_60, ty_61, ty_62, ty_63, ty_64, ty_65, ty_66, ty_67, ty_68, ty_69, ty_70, ty_71, ty_72, ty_73, ty_74, ty_75, ty_76, ty_77, ty_78, ty_79, ty_80, ty_81, ty_82, ty_83, ty_84, ty_85, ty_86, ty_87, ty_88, ty_89, ty_90, ty_91, ty_92, ty_93, ty_94, ty_95, ty_96, ty_97, ty_98, ty_99, pl_3_10, pl_4_3, pl_5_3, pl_10_9, pl_10_11, pl_10_13, pl_13_1, pl_13_7, pl_16_6, pl_18_6, pl_19_1, pl_27_6, pl_27_11, pl_33_17, pl_35_4, pl_35_6, pl_36_10, pl_37_10, pl_39_3, pl_40_5, pl_40_11, pl_40_16, pl_40_17, pl_40_22, pl_40_23, pl_42_1, pl_42_3, pl_42_5, pl_42_8, pl_43_1, pl_43_3, pl_43_5, pl_43_8, pl_43_10, pl_43_13, pl_43_15, pl_43_18, pl_43_21, pl_46_3, pl_46_5, pl_46_6, pl_48_1, pl_48_2, pl_48_3, pl_52_1, lp, hty, hpl, q3, p8, p9, p10, hw] at hx
    rw [hR] at hx
    have hol := ownV_len b.vars (varsF b.ty [])
    obtain ⟨tm', h', w', e1, e2, e3⟩ := loop17_0 hty hpl h20 h21 hl hf l (i + 1) w2 (out ++ ownV b.vars (varsF b.ty [])) hx hd' hlt (by simp; omega) q4 (by simp [T.get_set_ite, p8]) (by simp [T.get_set_ite, p9]) (by simp [T.get_set_ite]) (by simp [T.get_set_ite, q3])
    exact ⟨tm', h', w', e1, by simpa [freeS] using e2, by simpa [freeS] using e3⟩
theorem freeS_len : ∀ l : List Bd, (freeS l).length ≤ tsz l
  | [] => Nat.le_refl _
  | b :: l => by
    have h1 := freeS_len l
    have h2 := ownV_len b.vars (varsF b.ty [])
    have h3 := varsF_len b.ty []
    simp only [List.length_nil, Nat.zero_add] at h3
    simp only [freeS, tsz, List.length_append]
    omega
noncomputable def pre17 : Code := .seq (codeAt Try.f17 [0]) (.seq (codeAt Try.f17 [1, 0]) (.seq (codeAt Try.f17 [1, 1, 0, 0]) (.block 0 (.loop b17_0))))
theorem pre17_run {E : Env} (hty : E.ty = env.ty) (hpl : E.plan = env.plan) (h20 : E.prim 20 = some pTVars) (h21 : E.prim 21 = some pCont) {bs : List Bd} (hl : bs.length ≤ 9223372036854775806) (hf : ∀ b ∈ bs, b.fit ∧ size b.ty ≤ 1000000) (hs : tsz bs ≤ 1000000) (h : H) :
    ∃ tm h' w', cdL E 17 39 pre17 (setArgs 0 [.sl .no (bds bs)] .e) h = some (.normal, tm, h') ∧ tm.get 3 = some (.sl w' (ints (freeS bs))) ∧ RowE 3 1 h' w' (ints (freeS bs)) := by
  have hil := bds_len bs
  unfold pre17
  simp only [codeAt, sub, Try.f17]
  simp [cdL_seq, cdL_region, cdL_drawn, cdL_cond, cdL_block, cdL_skip, cdL_label, cdL_exit, cdL_ret, endL, evSeq, evOne, evAct, evOp, opKind, evPure, evRead, evNew, evWrite, evSlice, natOf, optVal, readAt, AV.cells, wantedA, putTm, val, allVals, evBin, evInt, evStr, evAppend, denseFrom, sizesAre, onesIn, evPlan, recheck, AV.beq_refl, H.new, H.put, fillF, fillAt, allOne, AV.one, setArgs, evRes, resOf, ofVal, ofVal0, blt_dec, ble_dec, beq_dec, T.get_set_ite, T.get_e, isShift, ikBeq, ty_0, ty_1, ty_2, ty_3, ty_4, ty_5, ty_6, ty_7, ty_8, ty_9, ty_10, ty_11, ty_12, ty_13, ty_14, ty_15, ty_16, ty_17, ty_18, ty_19, ty_20, ty_21, ty_22, ty_23, ty_24, ty_25, ty_26, ty_27, ty_28, ty_29, ty_30, ty_31, ty_32, ty_33, ty_34, ty_35, ty_36, ty_37, ty_38, ty_39, ty_40, ty_41, ty_42, ty_43, ty_44, ty_45, ty_46, ty_47, ty_48, ty_49, ty_50, ty_51, ty_52, ty_53, ty_54, ty_55, ty_56, ty_57, ty_58, ty_59, ty_60, ty_61, ty_62, ty_63, ty_64, ty_65, ty_66, ty_67, ty_68, ty_69, ty_70, ty_71, ty_72, ty_73, ty_74, ty_75, ty_76, ty_77, ty_78, ty_79, ty_80, ty_81, ty_82, ty_83, ty_84, ty_85, ty_86, ty_87, ty_88, ty_89, ty_90, ty_91, ty_92, ty_93, ty_94, ty_95, ty_96, ty_97, ty_98, ty_99, pl_3_10, pl_4_3, pl_5_3, pl_10_9, pl_10_11, pl_10_13, pl_13_1, pl_13_7, pl_16_6, pl_18_6, pl_19_1, pl_27_6, pl_27_11, pl_33_17, pl_35_4, pl_35_6, pl_36_10, pl_37_10, pl_39_3, pl_40_5, pl_40_11, pl_40_16, pl_40_17, pl_40_22, pl_40_23, pl_42_1, pl_42_3, pl_42_5, pl_42_8, pl_43_1, pl_43_3, pl_43_5, pl_43_8, pl_43_10, pl_43_13, pl_43_15, pl_43_18, pl_43_21, pl_46_3, pl_46_5, pl_46_6, pl_48_1, pl_48_2, pl_48_3, pl_52_1, hty, hpl, hil]
  generalize hx : cdL E 17 39 (.loop b17_0) _ _ = x
  obtain ⟨tm', h', w', rfl, q3, q4⟩ := loop17_0 hty hpl h20 h21 hl hf bs 0 .full [] hx rfl (Nat.zero_le _) (by simpa using hs) (.inl ⟨rfl, rfl⟩) (by simp [T.get_set_ite]) (by simp [T.get_set_ite]) (by simp [T.get_set_ite]) (by simp [T.get_set_ite, ints])
  exact ⟨tm', h', rfl, w', by simpa using q3, by simpa using q4⟩
end Go.Proofs.Ytcmbpfobdgijjaa.Env
/- The two Frees come to one row. -/
set_option autoImplicit false
set_option maxRecDepth 100000
set_option linter.unusedSimpArgs false
set_option linter.unusedVariables false
set_option linter.unusedSectionVars false
namespace Go.Proofs.Ytcmbpfobdgijjaa.Env
open Go.Ev

theorem ibeq_iff (a b : Int) : intBeq a b = true ↔ a = b := by
  cases a <;> cases b <;> simp [intBeq] <;> omega
theorem hasI_iff {L : List Int} {n : Int} : hasI L n = true ↔ n ∈ L := by
  simp only [hasI, List.any_eq_true]
  constructor
  · rintro ⟨y, h1, h2⟩; rw [ibeq_iff] at h2; rw [← h2]; exact h1
  · intro h; exact ⟨n, h, (ibeq_iff n n).2 rfl⟩
abbrev Up (l : List Int) : Prop := l.Pairwise fun x y => x ≤ y ∧ x ≠ y
theorem take_lt {out : List Int} {v : Int} : ∀ x ∈ out.takeWhile (fun y => ltI y v), x < v := by
  intro x hx
  have := List.all_takeWhile (p := fun y => ltI y v) (l := out)
  rw [List.all_eq_true] at this
  have := this x hx
  rw [ltI_eq] at this
  simpa using this
theorem insF_up : ∀ {out : List Int} {v : Int}, Up out → hasI out v = false → Up (insF out v) ∧ ∀ x, x ∈ insF out v ↔ x ∈ out ∨ x = v
  | [], v, _, _ => by simp [insF, Up]
  | a :: l, v, h, hh => by
    have hnm : v ∉ a :: l := fun hc => by rw [← hasI_iff] at hc; rw [hc] at hh; cases hh
    have h' := List.pairwise_cons.1 h
    cases hb : ltI a v with
    | false =>
      rw [ltI_eq] at hb
      have hav : v < a := by
        have : a ≠ v := fun e => hnm (by rw [e]; exact List.mem_cons_self ..)
        simp at hb; omega
      have e : insF (a :: l) v = v :: a :: l := by
        have : ltI a v = false := by rw [ltI_eq]; exact hb
        simp [insF, List.takeWhile, List.dropWhile, this]
      rw [e]
      refine ⟨List.pairwise_cons.2 ⟨fun x hx => ?_, h⟩, fun x => by simp only [List.mem_cons]; constructor <;> rintro (h | h) <;> simp_all⟩
      rcases List.mem_cons.1 hx with rfl | hx
      · exact ⟨by omega, by omega⟩
      · have := (h'.1 x hx).1; exact ⟨by omega, by omega⟩
    | true =>
      have e : insF (a :: l) v = a :: insF l v := by simp [insF, List.takeWhile, List.dropWhile, hb]
      have hl : hasI l v = false := by
        cases hc : hasI l v with
        | false => rfl
        | true => exact absurd (List.mem_cons_of_mem a (hasI_iff.1 hc)) hnm
      obtain ⟨q1, q2⟩ := insF_up h'.2 hl
      rw [ltI_eq] at hb
      simp only [decide_eq_true_eq] at hb
      rw [e]
      refine ⟨List.pairwise_cons.2 ⟨fun x hx => ?_, q1⟩, fun x => by simp only [List.mem_cons, q2, or_assoc]⟩
      rcases (q2 x).1 hx with hx | rfl
      · exact h'.1 x hx
      · exact ⟨by omega, by omega⟩
theorem stepR_up {own out : List Int} {v : Int} (h : Up out) : Up (stepR own out v) ∧ ∀ x, x ∈ stepR own out v ↔ x ∈ out ∨ (x = v ∧ hasI own x = false) := by
  unfold stepR
  cases h1 : hasI own v with
  | true =>
    simp only [Bool.true_or, cond_true]
    refine ⟨h, fun x => ⟨.inl, fun hx => ?_⟩⟩
    rcases hx with hx | ⟨rfl, hx⟩
    · exact hx
    · rw [h1] at hx; cases hx
  | false =>
    cases h2 : hasI out v with
    | true =>
      simp only [Bool.false_or, cond_true]
      refine ⟨h, fun x => ⟨.inl, fun hx => ?_⟩⟩
      rcases hx with hx | ⟨rfl, _⟩
      · exact hx
      · exact hasI_iff.1 h2
    | false =>
      simp only [Bool.false_or, cond_false]
      obtain ⟨q1, q2⟩ := insF_up h h2
      refine ⟨q1, fun x => ?_⟩
      rw [q2]
      constructor
      · rintro (hx | rfl)
        · exact .inl hx
        · exact .inr ⟨rfl, h1⟩
      · rintro (hx | ⟨rfl, _⟩)
        · exact .inl hx
        · exact .inr rfl
theorem fold_up {own : List Int} : ∀ (V out : List Int), Up out → Up (V.foldl (stepR own) out) ∧ ∀ x, x ∈ V.foldl (stepR own) out ↔ x ∈ out ∨ x ∈ ownV own V
  | [], out, h => ⟨h, fun x => by simp [ownV]⟩
  | v :: V, out, h => by
    obtain ⟨q1, q2⟩ := stepR_up (own := own) (v := v) h
    obtain ⟨r1, r2⟩ := fold_up V (stepR own out v) q1
    refine ⟨r1, fun x => ?_⟩
    rw [List.foldl_cons, r2, q2]
    simp only [ownV, List.filter_cons]
    cases hv : hasI own v with
    | true =>
      simp only [Bool.not_true, Bool.false_eq_true, if_false]
      constructor
      · rintro ((hx | ⟨rfl, hx⟩) | hx)
        · exact .inl hx
        · rw [hv] at hx; cases hx
        · exact .inr hx
      · rintro (hx | hx)
        · exact .inl (.inl hx)
        · exact .inr hx
    | false =>
      simp only [Bool.not_false, if_true, List.mem_cons]
      constructor
      · rintro ((hx | ⟨rfl, hx⟩) | hx)
        · exact .inl hx
        · exact .inr (.inl rfl)
        · exact .inr (.inr hx)
      · rintro (hx | rfl | hx)
        · exact .inl (.inl hx)
        · exact .inl (.inr ⟨rfl, hv⟩)
        · exact .inr hx
theorem freeR_up : ∀ (l : List Bd) (out : List Int), Up out → Up (freeR l out) ∧ ∀ x, x ∈ freeR l out ↔ x ∈ out ∨ x ∈ freeS l
  | [], out, h => ⟨h, fun x => by simp [freeR, freeS]⟩
  | b :: l, out, h => by
    obtain ⟨q1, q2⟩ := fold_up (own := b.vars) (varsF b.ty []) out h
    obtain ⟨r1, r2⟩ := freeR_up l (freeR1 b out) q1
    refine ⟨r1, fun x => ?_⟩
    show x ∈ freeR l (freeR1 b out) ↔ _
    rw [r2]
    simp only [freeR1, q2, freeS, List.mem_append]
    constructor
    · rintro ((h | h) | h) <;> simp [h]
    · rintro (h | h | h) <;> simp [h]
abbrev sortI (l : List Int) : List Int := l.mergeSort fun x y => decide (x ≤ y)
theorem sort_up (l : List Int) : Up (Lib.compact (sortI l)) ∧ ∀ x, x ∈ Lib.compact (sortI l) ↔ x ∈ l := by
  have hs : (sortI l).Pairwise fun x y => x ≤ y := by
    have := List.pairwise_mergeSort (le := fun x y : Int => decide (x ≤ y)) (fun a b c h1 h2 => by simp only [decide_eq_true_eq] at *; omega) (fun a b => by simp only [Bool.or_eq_true, decide_eq_true_eq]; omega) l
    exact this.imp fun h => by simpa using h
  obtain ⟨q1, q2⟩ := compact_sorted (le := fun x y : Int => x ≤ y) (fun a => Int.le_refl a) (fun a b c => Int.le_trans) (fun a b => Int.le_antisymm) hs
  exact ⟨q1, fun x => by rw [q2, List.mem_mergeSort]⟩
/-- P10.1: both have the same free vars, in the same order. -/
theorem free_eq (bs : List Bd) : Lib.compact (sortI (freeS bs)) = freeR bs [] := by
  obtain ⟨q1, q2⟩ := sort_up (freeS bs)
  obtain ⟨r1, r2⟩ := freeR_up bs [] (by simp [Up])
  exact strict_eq (le := fun x y : Int => x ≤ y) (fun a b => Int.le_antisymm) q1 r1 fun x => by rw [q2, r2]; simp
end Go.Proofs.Ytcmbpfobdgijjaa.Env
/- The program's Free as a primitive. -/
set_option autoImplicit false
set_option maxRecDepth 100000
set_option linter.unusedSimpArgs false
set_option linter.unusedVariables false
set_option linter.unusedSectionVars false
namespace Go.Proofs.Ytcmbpfobdgijjaa.Env
open Go.Ev

theorem sortC26 : SortC Try.prog (Value.int .i64) sortI 26 where
  fn := ⟨_, Try.func26, by kernel_rfl, by kernel_rfl⟩
  len := fun zs => List.length_mergeSort zs
  nil := by simp [sortI]
  row := fun g cap zs w hH hg hl => calls_of_every_depth fun D => AnyS.slices_Sort_int_alone Try.lays189 D g 0 cap zs w hH hg hl
  none := fun p cap w => calls_of_every_depth fun D => AnyS.slices_Sort_int_none_alone Try.lays189 D p cap w
theorem compC27 : CompC Try.prog (Value.int .i64) (0 : Int) 27 where
  fn := ⟨_, Try.func27, by kernel_rfl, by kernel_rfl⟩
  row := fun g cap zs w hH hl hc => calls_of_every_depth fun D => AnyS.slices_Compact_int_in Try.laysNm220 D g 0 cap zs w hH hl hc
  none := fun p cap w => calls_of_every_depth fun D => AnyS.slices_Compact_int_empty_in Try.laysNm220 D p cap w
noncomputable abbrev E17 : Env := addPrim (addPrim env 21 pCont) 20 pTVars
theorem E17_ok : EnvOk Try.prog E17 := addPrim_ok envC_ok pTVars_ok
theorem bodyS17 : Try.f17.body = some (.seq (codeAt Try.f17 [0]) (.seq (codeAt Try.f17 [1, 0]) (.seq (.seq (codeAt Try.f17 [1, 1, 0, 0]) (.block 0 (.loop b17_0))) (codeAt Try.f17 [1, 1, 1])))) := rfl
theorem int_inv : ∀ (G : Gh) (w : World) (V : Value) (x : Int), VR G w V (.int .i64 x) → V = .int .i64 x := fun G w V x r => by cases r; rfl
theorem pTFree_ok : PrimOk Try.prog 17 pRFree := primVal_direct (fn := Try.f17) Try.func17 (by kernel_rfl) (by kernel_rfl) fun args v hv => by
  obtain ⟨bs, h1, hq, rfl⟩ := ofRel_some hv
  refine ⟨_, h1, fun G w A I hA => calls_of_wp Try.func17 bodyS17 ?_⟩
  obtain ⟨hl, hf, hs⟩ := hq
  rw [show (Enc.enc bs : AV) = .sl .no (bds bs) from rfl] at hA
  have hAl : A.size = 1 := by have := hA.1; simpa using this
  have T0 : TmR (Gp G) w 39 (setArgs 0 [.sl .no (bds bs)] .e) { tmps := A ++ Array.replicate (39 - A.size) undef, defers := [] } := tmr_start (by simp) hA
  have hco := E17_ok.plans 17 Try.f17 _ (by kernel_rfl) bodyS17
  obtain ⟨tm, h', w', hx, g3, hr⟩ := pre17_run (E := E17) rfl rfl (by kernel_rfl) (by kernel_rfl) hl hf hs ⟨.e, 0⟩
  have hrl := freeS_len bs
  refine seq3_sim E17_ok (by simp only [codeOk, Bool.and_eq_true] at hco ⊢; exact ⟨hco.1, hco.2.1, hco.2.2.1⟩) I T0 hx fun G1 w1 a1 I1 X1 T1 d1 => ?_
  have r := T1.val 3 _ g3
  have hsz := T1.size
  have hfr : (w' = .full ∧ freeS bs = []) ∨ ∃ id, w' = .ch id ∧ h'.t.get id = some (.chain (freeS bs).length 3 1) := by
    rcases hr with ⟨e, e0⟩ | ⟨id, e, hg, _⟩
    · exact .inl ⟨e, by simpa [ints] using e0⟩
    · exact .inr ⟨id, e, by rw [← ints_len]; exact hg⟩
  have ho := row_owned (enc := Value.int .i64) I1 X1 (av := AV.int .i64) int_inv (fun _ => rfl) hfr r
  obtain ⟨o0, o1, o2, o3, o4, hT, q0, q1, q2, q3, q4⟩ : ∃ o0 o1 o2 o3 o4, codeAt Try.f17 [1, 1, 1] = .seq (.region 12 #[o0, o1] false) (.seq (.region 13 #[o2, o3, o4] false) .ret) ∧ (o0.op = .move (.tmp 3) ∧ o0.dst = some 35 ∧ o0.guard = none) ∧
      (o1.op = .call { callee := .value (.func 26), args := #[.tmp 35], argTypes := #[29] } ∧ o1.dst = some 36 ∧ o1.guard = none) ∧ (o2.op = .move (.tmp 3) ∧ o2.dst = some 37 ∧ o2.guard = none) ∧
      (o3.op = .call { callee := .value (.func 27), args := #[.tmp 37], argTypes := #[29] } ∧ o3.dst = some 38 ∧ o3.guard = none) ∧ (o4.op = .assign (.tmp 38) ∧ o4.dst = some 2 ∧ o4.guard = none) :=
    ⟨_, _, _, _, _, rfl, ⟨rfl, rfl, rfl⟩, ⟨rfl, rfl, rfl⟩, ⟨rfl, rfl, rfl⟩, ⟨rfl, rfl, rfl⟩, ⟨rfl, rfl, rfl⟩⟩
  rw [hT, show (Enc.enc (freeR bs []) : AV) = .sl .no ((Lib.compact (sortI (freeS bs))).map (AV.int .i64)) from by rw [free_eq]; rfl]
  exact tail_sc (e := 3) sortC26 compC27 (av := AV.int .i64) (fun G w x => .int .i64 x) (fun _ => rfl) rfl (below_of_ext X1) (by omega) ho q0 q1 q2 q3 q4 rfl d1 rfl (by rw [hsz]; omega) (by omega)
end Go.Proofs.Ytcmbpfobdgijjaa.Env
