/- Sizes of expressions. -/
import Derived.Test.YtmnhhlkbpjemnaaDoorEvV
import Derived.Test.YtmnhhlkbpjemnaaDoorTFacts
set_option autoImplicit false
set_option maxRecDepth 100000
set_option linter.unusedSimpArgs false
set_option linter.unusedVariables false
namespace Go.Proofs.YtmnhhlkbpjemnaaDoor.Env
open Go.Ev Go.Ev.Nd

mutual
def szF : Nd → Int → Int
  | .mk _ _ _ _ _ ks, m => szL ks m 1
def szL : List Nd → Int → Int → Int
  | [], _, k => k
  | t :: l, m, k => bif ltI k m then szL l m (k + szF t (m - k)) else k
end
theorem szF_eq (t : Nd) (m : Int) : szF t m = szL t.kids m 1 := by cases t; rfl
mutual
theorem szF_le : ∀ (t : Nd) (m : Int), 1 ≤ szF t m ∧ (szF t m ≤ m ∨ szF t m = 1)
  | .mk _ _ _ _ _ ks, m => by
    have := szL_le ks m 1 (Int.le_refl _)
    simp only [szF]
    omega
theorem szL_le : ∀ (l : List Nd) (m k : Int), 1 ≤ k → k ≤ szL l m k ∧ (szL l m k ≤ m ∨ szL l m k = k)
  | [], m, k, _ => by simp [szL]
  | t :: l, m, k, hk => by
    simp only [szL]
    cases hb : ltI k m with
    | false => simp
    | true =>
      have hlt : k < m := by rw [ltI_eq] at hb; simpa using hb
      have h1 := szF_le t (m - k)
      have h2 := szL_le l m (k + szF t (m - k)) (by omega)
      simp only [cond_true]
      omega
end
mutual
theorem szF_size : ∀ (t : Nd) (m : Int), szF t m < m → szF t m = ↑t.size
  | .mk _ _ _ _ _ ks, m, h => by
    simp only [szF, Nd.size] at *
    have := szL_size ks m 1 (Int.le_refl _) h
    rw [this]; push_cast; omega
theorem szL_size : ∀ (l : List Nd) (m k : Int), 1 ≤ k → szL l m k < m → szL l m k = k + ↑(sizes l)
  | [], m, k, _, _ => by simp [szL, sizes]
  | t :: l, m, k, hk, h => by
    simp only [szL, sizes] at *
    cases hb : ltI k m with
    | false =>
      rw [hb] at h
      simp only [cond_false] at h
      have : ¬ k < m := by rw [ltI_eq] at hb; simpa using hb
      exact absurd h this
    | true =>
      have hlt : k < m := by rw [ltI_eq] at hb; simpa using hb
      rw [hb] at h
      simp only [cond_true] at h ⊢
      have h1 := szF_le t (m - k)
      have h2 := szL_le l m (k + szF t (m - k)) (by omega)
      have h3 := szF_size t (m - k) (by omega)
      rw [szL_size l m _ (by omega) h, h3]
      push_cast; omega
end
/-- A node's cells, to look at. -/
theorem nd_cells (t : Nd) : ∃ a b c d e f, t.av = .agg [.str a, .str b, .str c, .int .i64 d, .int .i64 e, .sl .no f] := by cases t; exact ⟨_, _, _, _, _, _, rfl⟩

/-! ### the reference's size -/
noncomputable def b19_0 : Code := loopOf Tryd.f19 0
theorem body19 : Tryd.f19.body = some (.seq (codeAt Tryd.f19 [0]) (.seq (codeAt Tryd.f19 [1, 0]) (.seq (.seq (codeAt Tryd.f19 [1, 1, 0, 0]) (.block 0 (.loop b19_0))) (codeAt Tryd.f19 [1, 1, 1])))) := rfl
theorem loop19 {E : Env} (hty : E.ty = env.ty) (hpl : E.plan = env.plan) {c0 c1 c2 c3 c4 : AV} {ks : List Nd} {m : Int} {d : Nat} (hm : 0 ≤ m ∧ m ≤ 4000) (hl : ks.length ≤ 9223372036854775807) (hf : fits ks) (hd : deps ks ≤ d)
    (hc : ∀ t m h, dep t ≤ d → fit t → 0 ≤ m ∧ m ≤ 4000 → evL E 19 [t.av, .int .i64 m] h = some (.int .i64 (szF t m), h)) :
    ∀ (l : List Nd) (i : Nat) (k : Int) {tm : Tm} {h : H} {x : Option (Ex × Tm × H)}, cdL E 19 31 (.loop b19_0) tm h = x → l = ks.drop i → i ≤ ks.length → 1 ≤ k → (k ≤ m ∨ k = 1) →
    tm.get 1 = some (.int .i64 m) → tm.get 2 = some (.ptr (some (0, 0))) → tm.get 5 = some (.int .i64 k) → tm.get 6 = some (.int .i64 ↑i) → h.t.get 0 = some (.cells [c0, c1, c2, c3, c4, .sl .no (avs ks)]) →
    ∃ tm', x = some (.exit 0, tm', h) ∧ tm'.get 5 = some (.int .i64 (szL l m k))
  | [], i, k, tm, h, x, hx, hd, hi, hk, hk2, h1, h2, h5, h6, hz => by
    have hlen := dnil hd hi
    have hl2 := avs_len ks
    rw [hlen] at hl2
    obtain ⟨R, hR, hx⟩ := loop_step hx
    simp [b19_0, loopOf, Tryd.f19, loops, cdL_seq, cdL_region, cdL_drawn, cdL_cond, cdL_block, cdL_skip, cdL_label, cdL_exit, cdL_ret, endL, evSeq, evOne, evAct, evOp, opKind, evPure, evRead, evNew, evWrite, evSlice, natOf, optVal, readAt, AV.cells, wantedA, putTm, val, allVals, evBin, evInt, evStr, evAppend, evMin, denseFrom, sizesAre, onesIn, evPlan, recheck, AV.beq_refl, H.new, H.put, fillF, fillAt, allOne, AV.one, setArgs, evRes, resOf, ofVal, ofVal0, blt_dec, ble_dec, beq_dec, T.get_set_ite, T.get_e, isShift, ikBeq, ty_0, ty_1, ty_2, ty_3, ty_4, ty_5, ty_6, ty_7, ty_8, ty_9, ty_10, ty_11, ty_12, ty_13, ty_14, ty_15, ty_16, ty_17, ty_18, ty_19, ty_20, ty_21, ty_22, ty_23, ty_24, ty_25, ty_26, ty_27, ty_28, ty_29, ty_30, ty_31, ty_32, ty_33, ty_34, ty_35, ty_36, ty_37, ty_38, ty_39, ty_40, ty_41, ty_42, ty_43, ty_44, ty_45, ty_46, ty_47, ty_48, ty_49, ty_50, ty_51, ty_52, ty_53, ty_54, ty_55, ty_56, ty_57, ty_58, ty_59, ty_60, ty_61, ty_62, ty_63, ty_64, ty_65, ty_66, ty_67, ty_68, ty_69, ty_70, ty_71, ty_72, ty_73, ty_74, ty_75, ty_76, ty_77, ty_78, ty_79, ty_80, ty_81, ty_82, ty_83, ty_84, ty_85, ty_86, ty_87, ty_88, ty_89, ty_90, ty_91, ty_92, ty_93, ty_94, ty_95, ty_96, ty_97, ty_98, ty_99, ty_100, ty_101, ty_102, ty_103, ty_104, ty_105, ty_106, ty_107, ty_108, ty_109, ty_110, ty_111, ty_112, ty_113, ty_114, ty_115, ty_116, ty_117, ty_118, ty_119, ty_120, ty_121, ty_122, ty_123, ty_124, ty_125, ty_126, ty_127, ty_128, ty_129, pl_3_4, pl_4_3, pl_6_5, pl_9_1, pl_14_6, pl_18_6, pl_20_1, pl_29_6, pl_29_11, pl_30_3, pl_30_5, pl_30_9, pl_33_1, pl_33_10, pl_38_17, pl_46_4, pl_46_6, pl_47_10, pl_48_10, pl_50_3, pl_51_5, pl_51_11, pl_51_16, pl_51_17, pl_51_22, pl_51_23, pl_53_1, pl_53_3, pl_53_5, pl_53_8, pl_54_1, pl_54_3, pl_54_5, pl_54_8, pl_54_10, pl_54_13, pl_54_15, pl_54_18, pl_54_21, pl_60_3, pl_60_5, pl_60_6, pl_62_1, pl_62_2, pl_62_3, pl_69_1, pl_72_3, pl_88_9, pl_88_18, pl_89_9, lp, hty, hpl, h1, h2, h5, h6, hz, hl2, ltI_f] at hx
    exact ⟨_, by rw [← hx], by simp [T.get_set_ite, h5, szL]⟩
  | t :: l, i, k, tm, h, x, hx, hdr, hi, hk, hk2, h1, h2, h5, h6, hz => by
    obtain ⟨hlt, hct, hd'⟩ := dcons hdr
    have hl2 := avs_len ks
    have hat := avs_get hct
    have htm := List.mem_of_getElem? hct
    obtain ⟨R, hR, hx⟩ := loop_step hx
    have hlt' := ltI_t hlt
    have hw := wr_succ (i := i) (by omega)
    cases hb : ltI k m with
    | false =>
      simp [b19_0, loopOf, Tryd.f19, loops, cdL_seq, cdL_region, cdL_drawn, cdL_cond, cdL_block, cdL_skip, cdL_label, cdL_exit, cdL_ret, endL, evSeq, evOne, evAct, evOp, opKind, evPure, evRead, evNew, evWrite, evSlice, natOf, optVal, readAt, AV.cells, wantedA, putTm, val, allVals, evBin, evInt, evStr, evAppend, evMin, denseFrom, sizesAre, onesIn, evPlan, recheck, AV.beq_refl, H.new, H.put, fillF, fillAt, allOne, AV.one, setArgs, evRes, resOf, ofVal, ofVal0, blt_dec, ble_dec, beq_dec, T.get_set_ite, T.get_e, isShift, ikBeq, ty_0, ty_1, ty_2, ty_3, ty_4, ty_5, ty_6, ty_7, ty_8, ty_9, ty_10, ty_11, ty_12, ty_13, ty_14, ty_15, ty_16, ty_17, ty_18, ty_19, ty_20, ty_21, ty_22, ty_23, ty_24, ty_25, ty_26, ty_27, ty_28, ty_29, ty_30, ty_31, ty_32, ty_33, ty_34, ty_35, ty_36, ty_37, ty_38, ty_39, ty_40, ty_41, ty_42, ty_43, ty_44, ty_45, ty_46, ty_47, ty_48, ty_49, ty_50, ty_51, ty_52, ty_53, ty_54, ty_55, ty_56, ty_57, ty_58, ty_59, ty_60, ty_61, ty_62, ty_63, ty_64, ty_65, ty_66, ty_67, ty_68, ty_69, ty_70, ty_71, ty_72, ty_73, ty_74, ty_75, ty_76, ty_77, ty_78, ty_79, ty_80, ty_81, ty_82, ty_83, ty_84, ty_85, ty_86, ty_87, ty_88, ty_89, ty_90, ty_91, ty_92, ty_93, ty_94, ty_95, ty_96, ty_97, ty_98, ty_99, ty_100, ty_101, ty_102, ty_103, ty_104, ty_105, ty_106, ty_107, ty_108, ty_109, ty_110, ty_111, ty_112, ty_113, ty_114, ty_115, ty_116, ty_117, ty_118, ty_119, ty_120, ty_121, ty_122, ty_123, ty_124, ty_125, ty_126, ty_127, ty_128, ty_129, pl_3_4, pl_4_3, pl_6_5, pl_9_1, pl_14_6, pl_18_6, pl_20_1, pl_29_6, pl_29_11, pl_30_3, pl_30_5, pl_30_9, pl_33_1, pl_33_10, pl_38_17, pl_46_4, pl_46_6, pl_47_10, pl_48_10, pl_50_3, pl_51_5, pl_51_11, pl_51_16, pl_51_17, pl_51_22, pl_51_23, pl_53_1, pl_53_3, pl_53_5, pl_53_8, pl_54_1, pl_54_3, pl_54_5, pl_54_8, pl_54_10, pl_54_13, pl_54_15, pl_54_18, pl_54_21, pl_60_3, pl_60_5, pl_60_6, pl_62_1, pl_62_2, pl_62_3, pl_69_1, pl_72_3, pl_88_9, pl_88_18, pl_89_9, lp, hty, hpl, h1, h2, h5, h6, hz, hl2, hlt', hb] at hx
      exact ⟨_, by rw [← hx], by simp [T.get_set_ite, h5, szL, hb]⟩
    | true =>
      have hkm : k < m := by rw [ltI_eq] at hb; simpa using hb
      have hw1 : wr .i64 (Int.sub m k) = m - k := wrI (by show _ ≤ m - k; omega) (by show m - k < _; omega)
      have hsz := szF_le t (m - k)
      have hw2 : wr .i64 (k + szF t (m - k)) = k + szF t (m - k) := wrI (by omega) (by omega)
      have hcall := fun h => hc t (m - k) h (Nat.le_trans (dep_mem htm) hd) (fits_mem.1 hf t htm) (by omega)
      obtain ⟨a0, a1, a2, a3, a4, a5, ha⟩ := nd_cells t
      rw [ha] at hat hcall
      simp [b19_0, loopOf, Tryd.f19, loops, cdL_seq, cdL_region, cdL_drawn, cdL_cond, cdL_block, cdL_skip, cdL_label, cdL_exit, cdL_ret, endL, evSeq, evOne, evAct, evOp, opKind, evPure, evRead, evNew, evWrite, evSlice, natOf, optVal, readAt, AV.cells, wantedA, putTm, val, allVals, evBin, evInt, evStr, evAppend, evMin, denseFrom, sizesAre, onesIn, evPlan, recheck, AV.beq_refl, H.new, H.put, fillF, fillAt, allOne, AV.one, setArgs, evRes, resOf, ofVal, ofVal0, blt_dec, ble_dec, beq_dec, T.get_set_ite, T.get_e, isShift, ikBeq, ty_0, ty_1, ty_2, ty_3, ty_4, ty_5, ty_6, ty_7, ty_8, ty_9, ty_10, ty_11, ty_12, ty_13, ty_14, ty_15, ty_16, ty_17, ty_18, ty_19, ty_20, ty_21, ty_22, ty_23, ty_24, ty_25, ty_26, ty_27, ty_28, ty_29, ty_30, ty_31, ty_32, ty_33, ty_34, ty_35, ty_36, ty_37, ty_38, ty_39, ty_40, ty_41, ty_42, ty_43, ty_44, ty_45, ty_46, ty_47, ty_48, ty_49, ty_50, ty_51, ty_52, ty_53, ty_54, ty_55, ty_56, ty_57, ty_58, ty_59, ty_60, ty_61, ty_62, ty_63, ty_64, ty_65, ty_66, ty_67, ty_68, ty_69, ty_70, ty_71, ty_72, ty_73, ty_74, ty_75, ty_76, ty_77, ty_78, ty_79, ty_80, ty_81, ty_82, ty_83, ty_84, ty_85, ty_86, ty_87, ty_88, ty_89, ty_90, ty_91, ty_92, ty_93, ty_94, ty_95, ty_96, ty_97, ty_98, ty_99, ty_100, ty_101, ty_102, ty_103, ty_104, ty_105, ty_106, ty_107, ty_108, ty_109, ty_110, ty_111, ty_112, ty_113, ty_114, ty_115, ty_116, ty_117, ty_118, ty_119, ty_120, ty_121, ty_122, ty_123, ty_124, ty_125, ty_126, ty_127, ty_128, ty_129, pl_3_4, pl_4_3, pl_6_5, pl_9_1, pl_14_6, pl_18_6, pl_20_1, pl_29_6, pl_29_11, pl_30_3, pl_30_5, pl_30_9, pl_33_1, pl_33_10, pl_38_17, pl_46_4, pl_46_6, pl_47_10, pl_48_10, pl_50_3, pl_51_5, pl_51_11, pl_51_16, pl_51_17, pl_51_22, pl_51_23, pl_53_1, pl_53_3, pl_53_5, pl_53_8, pl_54_1, pl_54_3, pl_54_5, pl_54_8, pl_54_10, pl_54_13, pl_54_15, pl_54_18, pl_54_21, pl_60_3, pl_60_5, pl_60_6, pl_62_1, pl_62_2, pl_62_3, pl_69_1, pl_72_3, pl_88_9, pl_88_18, pl_89_9, lp, hty, hpl, h1, h2, h5, h6, hz, hl2, hlt', hb, hat, hw1, hcall, hw2, hw] at hx
      rw [hR] at hx
      obtain ⟨tm', g0, g1⟩ := loop19 hty hpl hm hl hf hd hc l (i + 1) (k + szF t (m - k)) hx hd' hlt (by omega) (by omega) (by simp [T.get_set_ite, h1]) (by simp [T.get_set_ite, h2]) (by simp [T.get_set_ite]) (by simp [T.get_set_ite]) hz
      exact ⟨tm', g0, by rw [g1, szL, hb]; rfl⟩
def qsz (d : Nat) (t : Nd) (m : Int) : Prop := dep t ≤ d ∧ fit t ∧ 0 ≤ m ∧ m ≤ 4000
def qsz' (t : Nd) (m : Int) : Prop := fit t ∧ 0 ≤ m ∧ m ≤ 4000
noncomputable abbrev pdSz (d : Nat) := primVal (ofRel (Rel2 (qsz d) szF))
noncomputable abbrev pSz := primVal (ofRel (Rel2 qsz' szF))
theorem pd19_ok : ∀ d, PrimOk Tryd.prog 19 (pdSz d) := prim_rec env_ok (prim_none Tryd.func19 (by kernel_rfl) (by kernel_rfl) (prim_empty fun a b h => by have := dep_pos a; have := h.1; omega)) fun d hE => by
  refine prim2_ok hE (fn := Tryd.f19) (by kernel_rfl) body19 (by kernel_rfl) fun t m hq => ?_
  obtain ⟨hdp, hf, hm⟩ := hq
  have hcall : ∀ t m h, dep t ≤ d → fit t → 0 ≤ m ∧ m ≤ 4000 → evL (addPrim env 19 (pdSz d)) 19 [t.av, .int .i64 m] h = some (.int .i64 (szF t m), h) := fun t m h h1 h2 h3 =>
    prim2_call (a := t) (b := m) (F := szF) (q := qsz d) (by kernel_rfl) (Enc.bare 0 t) (Enc.bare 0 m) ⟨h1, h2, h3⟩ h
  have hty : (addPrim env 19 (pdSz d)).ty = env.ty := rfl
  have hpl : (addPrim env 19 (pdSz d)).plan = env.plan := rfl
  generalize addPrim env 19 (pdSz d) = E at *
  obtain ⟨o, p, q, n, a, ks⟩ := t
  simp only [dep] at hdp
  simp only [fit] at hf
  rw [show (Enc.enc (Nd.mk o p q n a ks) : AV) = (Nd.mk o p q n a ks).av from rfl, show (Enc.enc m : AV) = .int .i64 m from rfl]
  unfold bodyL
  simp only [codeAt, sub, Tryd.f19]
  simp [cdL_seq, cdL_region, cdL_drawn, cdL_cond, cdL_block, cdL_skip, cdL_label, cdL_exit, cdL_ret, endL, evSeq, evOne, evAct, evOp, opKind, evPure, evRead, evNew, evWrite, evSlice, natOf, optVal, readAt, AV.cells, wantedA, putTm, val, allVals, evBin, evInt, evStr, evAppend, evMin, denseFrom, sizesAre, onesIn, evPlan, recheck, AV.beq_refl, H.new, H.put, fillF, fillAt, allOne, AV.one, setArgs, evRes, resOf, ofVal, ofVal0, blt_dec, ble_dec, beq_dec, T.get_set_ite, T.get_e, isShift, ikBeq, ty_0, ty_1, ty_2, ty_3, ty_4, ty_5, ty_6, ty_7, ty_8, ty_9, ty_10, ty_11, ty_12, ty_13, ty_14, ty_15, ty_16, ty_17, ty_18, ty_19, ty_20, ty_21, ty_22, ty_23, ty_24, ty_25, ty_26, ty_27, ty_28, ty_29, ty_30, ty_31, ty_32, ty_33, ty_34, ty_35, ty_36, ty_37, ty_38, ty_39, ty_40, ty_41, ty_42, ty_43, ty_44, ty_45, ty_46, ty_47, ty_48, ty_49, ty_50, ty_51, ty_52, ty_53, ty_54, ty_55, ty_56, ty_57, ty_58, ty_59, ty_60, ty_61, ty_62, ty_63, ty_64, ty_65, ty_66, ty_67, ty_68, ty_69, ty_70, ty_71, ty_72, ty_73, ty_74, ty_75, ty_76, ty_77, ty_78, ty_79, ty_80, ty_81, ty_82, ty_83, ty_84, ty_85, ty_86, ty_87, ty_88, ty_89, ty_90, ty_91, ty_92, ty_93, ty_94, ty_95, ty_96, ty_97, ty_98, ty_99, ty_100, ty_101, ty_102, ty_103, ty_104, ty_105, ty_106, ty_107, ty_108, ty_109, ty_110, ty_111, ty_112, ty_113, ty_114, ty_115, ty_116, ty_117, ty_118, ty_119, ty_120, ty_121, ty_122, ty_123, ty_124, ty_125, ty_126, ty_127, ty_128, ty_129, pl_3_4, pl_4_3, pl_6_5, pl_9_1, pl_14_6, pl_18_6, pl_20_1, pl_29_6, pl_29_11, pl_30_3, pl_30_5, pl_30_9, pl_33_1, pl_33_10, pl_38_17, pl_46_4, pl_46_6, pl_47_10, pl_48_10, pl_50_3, pl_51_5, pl_51_11, pl_51_16, pl_51_17, pl_51_22, pl_51_23, pl_53_1, pl_53_3, pl_53_5, pl_53_8, pl_54_1, pl_54_3, pl_54_5, pl_54_8, pl_54_10, pl_54_13, pl_54_15, pl_54_18, pl_54_21, pl_60_3, pl_60_5, pl_60_6, pl_62_1, pl_62_2, pl_62_3, pl_69_1, pl_72_3, pl_88_9, pl_88_18, pl_89_9, hty, hpl, Nd.av]
  generalize hx : cdL E 19 31 (.loop b19_0) _ _ = x
  obtain ⟨tm', rfl, g5⟩ := loop19 hty hpl (c0 := .str o) (c1 := .str p) (c2 := .str q) (c3 := .int .i64 n) (c4 := .int .i64 a) (ks := ks) (d := d) hm hf.2.2.2.2.2.1 hf.2.2.2.2.2.2 (by omega) hcall ks 0 1 hx rfl (Nat.zero_le _) (by omega) (.inr rfl) (by simp [T.get_set_ite]) (by simp [T.get_set_ite]) (by simp [T.get_set_ite]) (by simp [T.get_set_ite]) (by simp [T.get_set_ite])
  simp [cdL_seq, cdL_region, cdL_drawn, cdL_cond, cdL_block, cdL_skip, cdL_label, cdL_exit, cdL_ret, endL, evSeq, evOne, evAct, evOp, opKind, evPure, evRead, evNew, evWrite, evSlice, natOf, optVal, readAt, AV.cells, wantedA, putTm, val, allVals, evBin, evInt, evStr, evAppend, evMin, denseFrom, sizesAre, onesIn, evPlan, recheck, AV.beq_refl, H.new, H.put, fillF, fillAt, allOne, AV.one, setArgs, evRes, resOf, ofVal, ofVal0, blt_dec, ble_dec, beq_dec, T.get_set_ite, T.get_e, isShift, ikBeq, ty_0, ty_1, ty_2, ty_3, ty_4, ty_5, ty_6, ty_7, ty_8, ty_9, ty_10, ty_11, ty_12, ty_13, ty_14, ty_15, ty_16, ty_17, ty_18, ty_19, ty_20, ty_21, ty_22, ty_23, ty_24, ty_25, ty_26, ty_27, ty_28, ty_29, ty_30, ty_31, ty_32, ty_33, ty_34, ty_35, ty_36, ty_37, ty_38, ty_39, ty_40, ty_41, ty_42, ty_43, ty_44, ty_45, ty_46, ty_47, ty_48, ty_49, ty_50, ty_51, ty_52, ty_53, ty_54, ty_55, ty_56, ty_57, ty_58, ty_59, ty_60, ty_61, ty_62, ty_63, ty_64, ty_65, ty_66, ty_67, ty_68, ty_69, ty_70, ty_71, ty_72, ty_73, ty_74, ty_75, ty_76, ty_77, ty_78, ty_79, ty_80, ty_81, ty_82, ty_83, ty_84, ty_85, ty_86, ty_87, ty_88, ty_89, ty_90, ty_91, ty_92, ty_93, ty_94, ty_95, ty_96, ty_97, ty_98, ty_99, ty_100, ty_101, ty_102, ty_103, ty_104, ty_105, ty_106, ty_107, ty_108, ty_109, ty_110, ty_111, ty_112, ty_113, ty_114, ty_115, ty_116, ty_117, ty_118, ty_119, ty_120, ty_121, ty_122, ty_123, ty_124, ty_125, ty_126, ty_127, ty_128, ty_129, pl_3_4, pl_4_3, pl_6_5, pl_9_1, pl_14_6, pl_18_6, pl_20_1, pl_29_6, pl_29_11, pl_30_3, pl_30_5, pl_30_9, pl_33_1, pl_33_10, pl_38_17, pl_46_4, pl_46_6, pl_47_10, pl_48_10, pl_50_3, pl_51_5, pl_51_11, pl_51_16, pl_51_17, pl_51_22, pl_51_23, pl_53_1, pl_53_3, pl_53_5, pl_53_8, pl_54_1, pl_54_3, pl_54_5, pl_54_8, pl_54_10, pl_54_13, pl_54_15, pl_54_18, pl_54_21, pl_60_3, pl_60_5, pl_60_6, pl_62_1, pl_62_2, pl_62_3, pl_69_1, pl_72_3, pl_88_9, pl_88_18, pl_89_9, hty, hpl, g5, szF, AV.wk, Enc.enc]
theorem p19_ok : PrimOk Tryd.prog 19 pSz := prim_union pd19_ok (union2 fun a b h => ⟨dep a, Nat.le_refl _, h⟩)
/-- Size, no more than 2001. -/
def sizeF (t : Nd) : Int := szF t 2001
noncomputable abbrev pSize := primVal (ofRel (Rel1 fit sizeF))
noncomputable abbrev e19 : Env := addPrim env 19 pSz
theorem p7_ok : PrimOk Tryd.prog 7 pSize := prim1_ok (addPrim_ok env_ok p19_ok) (fn := Tryd.f7) (by kernel_rfl) rfl (by kernel_rfl) fun t hf => by
  have k19 := fun h => prim2_call (E := e19) (f := 19) (a := t) (b := (2001 : Int)) (F := szF) (q := qsz') (by kernel_rfl) (Enc.bare 0 t) (Enc.bare 0 (2001 : Int)) ⟨hf, by omega⟩ h
  have hle := szF_le t 2001
  have hty : e19.ty = env.ty := rfl
  have hpl : e19.plan = env.plan := rfl
  obtain ⟨a0, a1, a2, a3, a4, a5, ha⟩ := nd_cells t
  rw [show (Enc.enc t : AV) = t.av from rfl, show (Enc.enc (2001 : Int) : AV) = .int .i64 2001 from rfl, show (Enc.enc (szF t 2001) : AV) = .int .i64 (szF t 2001) from rfl] at k19
  rw [show (Enc.enc t : AV) = t.av from rfl, show (Enc.enc (sizeF t) : AV) = .int .i64 (szF t 2001) from rfl]
  rw [ha] at k19 ⊢
  generalize szF t 2001 = k at *
  unfold bodyL
  simp only [codeAt, sub, Tryd.f7]
  have hmin : (bif ltI 2001 k then (2001 : Int) else k) = k := by
    cases hb : ltI 2001 k with
    | false => rfl
    | true => rw [ltI_eq] at hb; simp at hb; omega
  simp [cdL_seq, cdL_region, cdL_drawn, cdL_cond, cdL_block, cdL_skip, cdL_label, cdL_exit, cdL_ret, endL, evSeq, evOne, evAct, evOp, opKind, evPure, evRead, evNew, evWrite, evSlice, natOf, optVal, readAt, AV.cells, wantedA, putTm, val, allVals, evBin, evInt, evStr, evAppend, evMin, denseFrom, sizesAre, onesIn, evPlan, recheck, AV.beq_refl, H.new, H.put, fillF, fillAt, allOne, AV.one, setArgs, evRes, resOf, ofVal, ofVal0, blt_dec, ble_dec, beq_dec, T.get_set_ite, T.get_e, isShift, ikBeq, ty_0, ty_1, ty_2, ty_3, ty_4, ty_5, ty_6, ty_7, ty_8, ty_9, ty_10, ty_11, ty_12, ty_13, ty_14, ty_15, ty_16, ty_17, ty_18, ty_19, ty_20, ty_21, ty_22, ty_23, ty_24, ty_25, ty_26, ty_27, ty_28, ty_29, ty_30, ty_31, ty_32, ty_33, ty_34, ty_35, ty_36, ty_37, ty_38, ty_39, ty_40, ty_41, ty_42, ty_43, ty_44, ty_45, ty_46, ty_47, ty_48, ty_49, ty_50, ty_51, ty_52, ty_53, ty_54, ty_55, ty_56, ty_57, ty_58, ty_59, ty_60, ty_61, ty_62, ty_63, ty_64, ty_65, ty_66, ty_67, ty_68, ty_69, ty_70, ty_71, ty_72, ty_73, ty_74, ty_75, ty_76, ty_77, ty_78, ty_79, ty_80, ty_81, ty_82, ty_83, ty_84, ty_85, ty_86, ty_87, ty_88, ty_89, ty_90, ty_91, ty_92, ty_93, ty_94, ty_95, ty_96, ty_97, ty_98, ty_99, ty_100, ty_101, ty_102, ty_103, ty_104, ty_105, ty_106, ty_107, ty_108, ty_109, ty_110, ty_111, ty_112, ty_113, ty_114, ty_115, ty_116, ty_117, ty_118, ty_119, ty_120, ty_121, ty_122, ty_123, ty_124, ty_125, ty_126, ty_127, ty_128, ty_129, pl_3_4, pl_4_3, pl_6_5, pl_9_1, pl_14_6, pl_18_6, pl_20_1, pl_29_6, pl_29_11, pl_30_3, pl_30_5, pl_30_9, pl_33_1, pl_33_10, pl_38_17, pl_46_4, pl_46_6, pl_47_10, pl_48_10, pl_50_3, pl_51_5, pl_51_11, pl_51_16, pl_51_17, pl_51_22, pl_51_23, pl_53_1, pl_53_3, pl_53_5, pl_53_8, pl_54_1, pl_54_3, pl_54_5, pl_54_8, pl_54_10, pl_54_13, pl_54_15, pl_54_18, pl_54_21, pl_60_3, pl_60_5, pl_60_6, pl_62_1, pl_62_2, pl_62_3, pl_69_1, pl_72_3, pl_88_9, pl_88_18, pl_89_9, hty, hpl, k19, hmin, AV.wk]
end Go.Proofs.YtmnhhlkbpjemnaaDoor.Env
