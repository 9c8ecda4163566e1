/- The reference's Free: its loops. -/
import Derived.Test.YtmnhhlkbpjemnaaDoorTI
set_option autoImplicit false
set_option maxRecDepth 100000
set_option linter.unusedSimpArgs false
set_option linter.unusedVariables false
set_option linter.unusedSectionVars false
namespace Go.Proofs.YtmnhhlkbpjemnaaDoor.Env
open Go.Ev Go.Ev.Nd

/-- Into a row that rises. -/
def insS (out : List Str) (p : List Nat) : List Str := out.takeWhile (fun y => nLess y.s p) ++ ⟨p⟩ :: out.dropWhile (fun y => nLess y.s p)
theorem insS_len (out : List Str) (p : List Nat) : (insS out p).length = out.length + 1 := by
  have := congrArg List.length (List.takeWhile_append_dropWhile (p := fun y : Str => nLess y.s p) (l := out))
  simp only [List.length_append] at this
  simp only [insS, List.length_append, List.length_cons]
  omega
mutual
def freeR : Nd → List Str → List Str → List Str
  | .mk o p q n a ks, bound, out => freeRL o p q 0 ks bound (bif natsBeq o varS && (!hasS bound p && !hasS out p) then insS out p else out)
def freeRL (o p q : List Nat) (i : Nat) : List Nd → List Str → List Str → List Str
  | [], _, out => out
  | t :: l, bound, out => freeRL o p q (i + 1) l bound (freeR t (bound ++ bindR o p q ↑i) out)
end
mutual
theorem freeR_len : ∀ (t : Nd) (bound out : List Str), (freeR t bound out).length ≤ out.length + t.size
  | .mk o p q n a ks, bound, out => by
    simp only [freeR, Nd.size]
    have := freeRL_len o p q 0 ks bound (bif natsBeq o varS && (!hasS bound p && !hasS out p) then insS out p else out)
    cases hb : (natsBeq o varS && (!hasS bound p && !hasS out p)) with
    | true => rw [hb] at this; simp only [cond_true, insS_len] at this ⊢; omega
    | false => rw [hb] at this; simp only [cond_false] at this ⊢; omega
theorem freeRL_len (o p q : List Nat) (i : Nat) : ∀ (l : List Nd) (bound out : List Str), (freeRL o p q i l bound out).length ≤ out.length + sizes l
  | [], bound, out => by simp [freeRL, sizes]
  | t :: l, bound, out => by
    simp only [freeRL, sizes]
    have h1 := freeR_len t (bound ++ bindR o p q ↑i) out
    have h2 := freeRL_len o p q (i + 1) l bound (freeR t (bound ++ bindR o p q ↑i) out)
    omega
end
noncomputable def b30_0 : Code := loopOf Tryd.f30 0
noncomputable def b30_1 : Code := loopOf Tryd.f30 1
theorem body30 : Tryd.f30.body = some (.seq (codeAt Tryd.f30 [0]) (.seq (.seq (codeAt Tryd.f30 [1, 0, 0]) (.cond (condAt Tryd.f30 [1, 0, 1]) (.seq (codeAt Tryd.f30 [1, 0, 1, 0, 0]) (.seq (.block 0 (.loop b30_0)) (codeAt Tryd.f30 [1, 0, 1, 0, 1, 1]))) (codeAt Tryd.f30 [1, 0, 1, 1]))) (.seq (.seq (codeAt Tryd.f30 [1, 1, 0, 0]) (.block 2 (.loop b30_1))) (codeAt Tryd.f30 [1, 1, 1])))) := rfl
theorem loop30_0 {E : Env} (hty : E.ty = env.ty) (hpl : E.plan = env.plan) {c0 c2 c3 c4 c5 : AV} {p : List Nat} {out : List Str} {o : Own} (hl : out.length ≤ 1000000) :
    ∀ (l : List Str) (i : Nat) {tm : Tm} {h : H} {x : Option (Ex × Tm × H)}, cdL E 30 76 (.loop b30_0) tm h = x → l = out.drop i → i ≤ out.length → h.t.get 0 = some (.cells [c0, .str p, c2, c3, c4, c5]) →
    tm.get 2 = some (.sl o (strs out)) → tm.get 3 = some (.ptr (some (0, 0))) → tm.get 7 = some (.int .i64 ↑i) →
    ∃ tm', x = some (.exit 0, tm', h) ∧ tm'.get 7 = some (.int .i64 ↑(i + (l.takeWhile (fun y => nLess y.s p)).length)) ∧ ∀ k, k < 7 → tm'.get k = tm.get k
  | [], i, tm, h, x, hx, hd, hi, hz, g2, g3, g7 => by
    have hlen := dnil hd hi
    have hil := strs_len out
    rw [hlen] at hil
    obtain ⟨R, hR, hx⟩ := loop_step hx
    simp [b30_0, loopOf, Tryd.f30, loops, cdL_seq, cdL_region, cdL_drawn, cdL_cond, cdL_block, cdL_skip, cdL_label, cdL_exit, cdL_ret, endL, evSeq, evOne, evAct, evOp, opKind, evPure, evRead, evNew, evWrite, evSlice, natOf, optVal, readAt, AV.cells, wantedA, putTm, val, allVals, evBin, evInt, evStr, evAppend, evMin, denseFrom, sizesAre, onesIn, evPlan, recheck, AV.beq_refl, H.new, H.put, fillF, fillAt, allOne, AV.one, setArgs, evRes, resOf, ofVal, ofVal0, blt_dec, ble_dec, beq_dec, T.get_set_ite, T.get_e, isShift, ikBeq, ty_0, ty_1, ty_2, ty_3, ty_4, ty_5, ty_6, ty_7, ty_8, ty_9, ty_10, ty_11, ty_12, ty_13, ty_14, ty_15, ty_16, ty_17, ty_18, ty_19, ty_20, ty_21, ty_22, ty_23, ty_24, ty_25, ty_26, ty_27, ty_28, ty_29, ty_30, ty_31, ty_32, ty_33, ty_34, ty_35, ty_36, ty_37, ty_38, ty_39, ty_40, ty_41, ty_42, ty_43, ty_44, ty_45, ty_46, ty_47, ty_48, ty_49, ty_50, ty_51, ty_52, ty_53, ty_54, ty_55, ty_56, ty_57, ty_58, ty_59, ty_60, ty_61, ty_62, ty_63, ty_64, ty_65, ty_66, ty_67, ty_68, ty_69, ty_70, ty_71, ty_72, ty_73, ty_74, ty_75, ty_76, ty_77, ty_78, ty_79, ty_80, ty_81, ty_82, ty_83, ty_84, ty_85, ty_86, ty_87, ty_88, ty_89, ty_90, ty_91, ty_92, ty_93, ty_94, ty_95, ty_96, ty_97, ty_98, ty_99, ty_100, ty_101, ty_102, ty_103, ty_104, ty_105, ty_106, ty_107, ty_108, ty_109, ty_110, ty_111, ty_112, ty_113, ty_114, ty_115, ty_116, ty_117, ty_118, ty_119, ty_120, ty_121, ty_122, ty_123, ty_124, ty_125, ty_126, ty_127, ty_128, ty_129, pl_3_4, pl_4_3, pl_6_5, pl_9_1, pl_14_6, pl_18_6, pl_20_1, pl_29_6, pl_29_11, pl_30_3, pl_30_5, pl_30_9, pl_33_1, pl_33_10, pl_38_17, pl_46_4, pl_46_6, pl_47_10, pl_48_10, pl_50_3, pl_51_5, pl_51_11, pl_51_16, pl_51_17, pl_51_22, pl_51_23, pl_53_1, pl_53_3, pl_53_5, pl_53_8, pl_54_1, pl_54_3, pl_54_5, pl_54_8, pl_54_10, pl_54_13, pl_54_15, pl_54_18, pl_54_21, pl_60_3, pl_60_5, pl_60_6, pl_62_1, pl_62_2, pl_62_3, pl_69_1, pl_72_3, pl_88_9, pl_88_18, pl_89_9, lp, hty, hpl, g2, g3, g7, hz, hil, ltI_f] at hx
    exact ⟨_, hx.symm, by simp [T.get_set_ite, g7], fun k hk => by simp only [T.get_set_ite]; repeat rw [if_neg (by omega)]⟩
  | c :: l, i, tm, h, x, hx, hd, hi, hz, g2, g3, g7 => by
    obtain ⟨hlt, hc, hd'⟩ := dcons hd
    have hil := strs_len out
    have hic := strs_get hc
    have hlt' := ltI_t hlt
    have hw := wr_succ (i := i) (by omega)
    obtain ⟨R, hR, hx⟩ := loop_step hx
    cases hb : nLess c.s p with
    | false =>
      simp [b30_0, loopOf, Tryd.f30, loops, cdL_seq, cdL_region, cdL_drawn, cdL_cond, cdL_block, cdL_skip, cdL_label, cdL_exit, cdL_ret, endL, evSeq, evOne, evAct, evOp, opKind, evPure, evRead, evNew, evWrite, evSlice, natOf, optVal, readAt, AV.cells, wantedA, putTm, val, allVals, evBin, evInt, evStr, evAppend, evMin, denseFrom, sizesAre, onesIn, evPlan, recheck, AV.beq_refl, H.new, H.put, fillF, fillAt, allOne, AV.one, setArgs, evRes, resOf, ofVal, ofVal0, blt_dec, ble_dec, beq_dec, T.get_set_ite, T.get_e, isShift, ikBeq, ty_0, ty_1, ty_2, ty_3, ty_4, ty_5, ty_6, ty_7, ty_8, ty_9, ty_10, ty_11, ty_12, ty_13, ty_14, ty_15, ty_16, ty_17, ty_18, ty_19, ty_20, ty_21, ty_22, ty_23, ty_24, ty_25, ty_26, ty_27, ty_28, ty_29, ty_30, ty_31, ty_32, ty_33, ty_34, ty_35, ty_36, ty_37, ty_38, ty_39, ty_40, ty_41, ty_42, ty_43, ty_44, ty_45, ty_46, ty_47, ty_48, ty_49, ty_50, ty_51, ty_52, ty_53, ty_54, ty_55, ty_56, ty_57, ty_58, ty_59, ty_60, ty_61, ty_62, ty_63, ty_64, ty_65, ty_66, ty_67, ty_68, ty_69, ty_70, ty_71, ty_72, ty_73, ty_74, ty_75, ty_76, ty_77, ty_78, ty_79, ty_80, ty_81, ty_82, ty_83, ty_84, ty_85, ty_86, ty_87, ty_88, ty_89, ty_90, ty_91, ty_92, ty_93, ty_94, ty_95, ty_96, ty_97, ty_98, ty_99, ty_100, ty_101, ty_102, ty_103, ty_104, ty_105, ty_106, ty_107, ty_108, ty_109, ty_110, ty_111, ty_112, ty_113, ty_114, ty_115, ty_116, ty_117, ty_118, ty_119, ty_120, ty_121, ty_122, ty_123, ty_124, ty_125, ty_126, ty_127, ty_128, ty_129, pl_3_4, pl_4_3, pl_6_5, pl_9_1, pl_14_6, pl_18_6, pl_20_1, pl_29_6, pl_29_11, pl_30_3, pl_30_5, pl_30_9, pl_33_1, pl_33_10, pl_38_17, pl_46_4, pl_46_6, pl_47_10, pl_48_10, pl_50_3, pl_51_5, pl_51_11, pl_51_16, pl_51_17, pl_51_22, pl_51_23, pl_53_1, pl_53_3, pl_53_5, pl_53_8, pl_54_1, pl_54_3, pl_54_5, pl_54_8, pl_54_10, pl_54_13, pl_54_15, pl_54_18, pl_54_21, pl_60_3, pl_60_5, pl_60_6, pl_62_1, pl_62_2, pl_62_3, pl_69_1, pl_72_3, pl_88_9, pl_88_18, pl_89_9, lp, hty, hpl, g2, g3, g7, hz, hil, hlt', hic, hb] at hx
      exact ⟨_, hx.symm, by simp [T.get_set_ite, g7, List.takeWhile, hb], fun k hk => by simp only [T.get_set_ite]; repeat rw [if_neg (by omega)]⟩
    | true =>
      simp [b30_0, loopOf, Tryd.f30, loops, cdL_seq, cdL_region, cdL_drawn, cdL_cond, cdL_block, cdL_skip, cdL_label, cdL_exit, cdL_ret, endL, evSeq, evOne, evAct, evOp, opKind, evPure, evRead, evNew, evWrite, evSlice, natOf, optVal, readAt, AV.cells, wantedA, putTm, val, allVals, evBin, evInt, evStr, evAppend, evMin, denseFrom, sizesAre, onesIn, evPlan, recheck, AV.beq_refl, H.new, H.put, fillF, fillAt, allOne, AV.one, setArgs, evRes, resOf, ofVal, ofVal0, blt_dec, ble_dec, beq_dec, T.get_set_ite, T.get_e, isShift, ikBeq, ty_0, ty_1, ty_2, ty_3, ty_4, ty_5, ty_6, ty_7, ty_8, ty_9, ty_10, ty_11, ty_12, ty_13, ty_14, ty_15, ty_16, ty_17, ty_18, ty_19, ty_20, ty_21, ty_22, ty_23, ty_24, ty_25, ty_26, ty_27, ty_28, ty_29, ty_30, ty_31, ty_32, ty_33, ty_34, ty_35, ty_36, ty_37, ty_38, ty_39, ty_40, ty_41, ty_42, ty_43, ty_44, ty_45, ty_46, ty_47, ty_48, ty_49, ty_50, ty_51, ty_52, ty_53, ty_54, ty_55, ty_56, ty_57, ty_58, ty_59, ty_60, ty_61, ty_62, ty_63, ty_64, ty_65, ty_66, ty_67, ty_68, ty_69, ty_70, ty_71, ty_72, ty_73, ty_74, ty_75, ty_76, ty_77, ty_78, ty_79, ty_80, ty_81, ty_82, ty_83, ty_84, ty_85, ty_86, ty_87, ty_88, ty_89, ty_90, ty_91, ty_92, ty_93, ty_94, ty_95, ty_96, ty_97, ty_98, ty_99, ty_100, ty_101, ty_102, ty_103, ty_104, ty_105, ty_106, ty_107, ty_108, ty_109, ty_110, ty_111, ty_112, ty_113, ty_114, ty_115, ty_116, ty_117, ty_118, ty_119, ty_120, ty_121, ty_122, ty_123, ty_124, ty_125, ty_126, ty_127, ty_128, ty_129, pl_3_4, pl_4_3, pl_6_5, pl_9_1, pl_14_6, pl_18_6, pl_20_1, pl_29_6, pl_29_11, pl_30_3, pl_30_5, pl_30_9, pl_33_1, pl_33_10, pl_38_17, pl_46_4, pl_46_6, pl_47_10, pl_48_10, pl_50_3, pl_51_5, pl_51_11, pl_51_16, pl_51_17, pl_51_22, pl_51_23, pl_53_1, pl_53_3, pl_53_5, pl_53_8, pl_54_1, pl_54_3, pl_54_5, pl_54_8, pl_54_10, pl_54_13, pl_54_15, pl_54_18, pl_54_21, pl_60_3, pl_60_5, pl_60_6, pl_62_1, pl_62_2, pl_62_3, pl_69_1, pl_72_3, pl_88_9, pl_88_18, pl_89_9, lp, hty, hpl, g2, g3, g7, hz, hil, hlt', hic, hb, hw] at hx
      rw [hR] at hx
      obtain ⟨tm', q1, q2, q3⟩ := loop30_0 hty hpl (o := o) (out := out) hl l (i + 1) hx hd' hlt hz (by simp [T.get_set_ite, g2]) (by simp [T.get_set_ite, g3]) (by simp [T.get_set_ite])
      refine ⟨tm', q1, ?_, fun k hk => ?_⟩
      · rw [q2]; simp [List.takeWhile, hb]; omega
      · rw [q3 k hk]
        simp only [T.get_set_ite]
        repeat rw [if_neg (by omega)]
def q30 (d : Nat) (t : Nd) (bound out : List Str) : Prop := dep t ≤ d ∧ fit t ∧ bound.length + 2 * t.size ≤ 1000000 ∧ out.length + t.size ≤ 1000000
theorem loop30_1 {E : Env} (hty : E.ty = env.ty) (hpl : E.plan = env.plan) (h41 : E.prim 41 = some pBindR) {t : Nd} {bound : List Str} {d : Nat} (hkl : t.kids.length ≤ 9223372036854775806) (hf : fits t.kids) (hd : deps t.kids ≤ d) (hsz : bound.length + 2 + 2 * sizes t.kids ≤ 1000000)
    (hc : ∀ t b o h, q30 d t b o → ∀ {x y : AV}, x.wk 0 (.sl .no (strs b)) → y.wk 0 (.sl .no (strs o)) → evL E 30 [t.av, x, y] h = some (.sl .no (strs (freeR t b o)), h)) :
    ∀ (l : List Nd) (i : Nat) (w : Own) (out : List Str) {tm : Tm} {h : H} {x : Option (Ex × Tm × H)}, cdL E 30 76 (.loop b30_1) tm h = x → l = t.kids.drop i → i ≤ t.kids.length → out.length + sizes l ≤ 1000000 → h.t.get 0 = some (.cells t.av.cells) → 0 < h.nx →
    tm.get 1 = some (.sl .no (strs bound)) → tm.get 2 = some (.sl w (strs out)) → tm.get 3 = some (.ptr (some (0, 0))) → tm.get 8 = some (.int .i64 ↑i) →
    ∃ tm' h' w', x = some (.exit 2, tm', h') ∧ tm'.get 2 = some (.sl w' (strs (freeRL t.op t.name t.arg i l bound out)))
  | [], i, w, out, tm, h, x, hx, hdr, hi, hlen, hz, hn0, g1, g2, g3, g8 => by
    have hl := dnil hdr hi
    have hkn := avs_len t.kids
    rw [hl] at hkn
    have hta := t.cells_
    rw [hta] at hz
    simp only [AV.cells] at hz
    obtain ⟨R, hR, hx⟩ := loop_step hx
    simp [b30_1, loopOf, Tryd.f30, loops, cdL_seq, cdL_region, cdL_drawn, cdL_cond, cdL_block, cdL_skip, cdL_label, cdL_exit, cdL_ret, endL, evSeq, evOne, evAct, evOp, opKind, evPure, evRead, evNew, evWrite, evSlice, natOf, optVal, readAt, AV.cells, wantedA, putTm, val, allVals, evBin, evInt, evStr, evAppend, evMin, denseFrom, sizesAre, onesIn, evPlan, recheck, AV.beq_refl, H.new, H.put, fillF, fillAt, allOne, AV.one, setArgs, evRes, resOf, ofVal, ofVal0, blt_dec, ble_dec, beq_dec, T.get_set_ite, T.get_e, isShift, ikBeq, ty_0, ty_1, ty_2, ty_3, ty_4, ty_5, ty_6, ty_7, ty_8, ty_9, ty_10, ty_11, ty_12, ty_13, ty_14, ty_15, ty_16, ty_17, ty_18, ty_19, ty_20, ty_21, ty_22, ty_23, ty_24, ty_25, ty_26, ty_27, ty_28, ty_29, ty_30, ty_31, ty_32, ty_33, ty_34, ty_35, ty_36, ty_37, ty_38, ty_39, ty_40, ty_41, ty_42, ty_43, ty_44, ty_45, ty_46, ty_47, ty_48, ty_49, ty_50, ty_51, ty_52, ty_53, ty_54, ty_55, ty_56, ty_57, ty_58, ty_59, ty_60, ty_61, ty_62, ty_63, ty_64, ty_65, ty_66, ty_67, ty_68, ty_69, ty_70, ty_71, ty_72, ty_73, ty_74, ty_75, ty_76, ty_77, ty_78, ty_79, ty_80, ty_81, ty_82, ty_83, ty_84, ty_85, ty_86, ty_87, ty_88, ty_89, ty_90, ty_91, ty_92, ty_93, ty_94, ty_95, ty_96, ty_97, ty_98, ty_99, ty_100, ty_101, ty_102, ty_103, ty_104, ty_105, ty_106, ty_107, ty_108, ty_109, ty_110, ty_111, ty_112, ty_113, ty_114, ty_115, ty_116, ty_117, ty_118, ty_119, ty_120, ty_121, ty_122, ty_123, ty_124, ty_125, ty_126, ty_127, ty_128, ty_129, pl_3_4, pl_4_3, pl_6_5, pl_9_1, pl_14_6, pl_18_6, pl_20_1, pl_29_6, pl_29_11, pl_30_3, pl_30_5, pl_30_9, pl_33_1, pl_33_10, pl_38_17, pl_46_4, pl_46_6, pl_47_10, pl_48_10, pl_50_3, pl_51_5, pl_51_11, pl_51_16, pl_51_17, pl_51_22, pl_51_23, pl_53_1, pl_53_3, pl_53_5, pl_53_8, pl_54_1, pl_54_3, pl_54_5, pl_54_8, pl_54_10, pl_54_13, pl_54_15, pl_54_18, pl_54_21, pl_60_3, pl_60_5, pl_60_6, pl_62_1, pl_62_2, pl_62_3, pl_69_1, pl_72_3, pl_88_9, pl_88_18, pl_89_9, lp, hty, hpl, g1, g2, g3, g8, hz, hkn, ltI_f] at hx
    exact ⟨_, h, w, hx.symm, by simp [T.get_set_ite, g2, freeRL]⟩
  | k :: l, i, w, out, tm, h, x, hx, hdr, hi, hlen, hz, hn0, g1, g2, g3, g8 => by
    obtain ⟨hlt, hct, hd'⟩ := dcons hdr
    have hat := avs_get hct
    have hkn := avs_len t.kids
    have htm := List.mem_of_getElem? hct
    have hlt' := ltI_t hlt
    have hw := wr_succ (i := i) (by omega)
    simp only [sizes] at hlen
    have hks := size_mem htm
    have hBl := bindR_len t.op t.name t.arg ↑i
    have kB := fun h => cBindR (E := E) h41 t ↑i h
    rw [show bindRN t ↑i = bindR t.op t.name t.arg ↑i from rfl] at kB
    have hrl := freeR_len k (bound ++ bindR t.op t.name t.arg ↑i) out
    have hbl := strs_len bound
    have hbb := strs_len (bindR t.op t.name t.arg ↑i)
    obtain ⟨w1, ha1, e1, r1, n1, f1⟩ := app_any (e := 9) (sz := 1) (byt := 16) (h := h) (w := .full) (xs := []) (ys := strs bound) (by omega) (by omega) rfl (strs_sizes _) (strs_ones _) (by rw [hbl]; simp; omega) (.inl ⟨rfl, rfl⟩)
    rw [List.nil_append] at e1 r1
    obtain ⟨w2, ha2, e2, r2, n2, f2⟩ := app_any (e := 9) (sz := 1) (byt := 16) (xs := strs bound) (ys := strs (bindR t.op t.name t.arg ↑i)) (by omega) (by omega) (strs_sizes _) (strs_sizes _) (strs_ones _) (by rw [hbl, hbb]; omega) r1
    rw [strs_append] at e2 r2
    have z1 : ha1.t.get 0 = some (.cells t.av.cells) := by rw [f1 0 hn0 (by simp)]; exact hz
    have z2 : ha2.t.get 0 = some (.cells t.av.cells) := by rw [f2 0 (by omega) (r1.ne z1)]; exact z1
    have kF := fun h => hc k (bound ++ bindR t.op t.name t.arg ↑i) out h ⟨Nat.le_trans (dep_mem htm) hd, fits_mem.1 hf k htm, by simp; omega, by omega⟩ (strs_bare 0 w2 _) (strs_bare 0 w out)
    obtain ⟨a0, a1, a2, a3, a4, a5, ha⟩ := nd_cells k
    have hta := t.cells_
    rw [ha] at hat kF
    have hz' := hz
    have z2' := z2
    rw [hta] at hz kB z1 z2
    simp only [AV.cells] at hz z1 z2
    obtain ⟨R, hR, hx⟩ := loop_step hx
    simp [b30_1, loopOf, Tryd.f30, loops, cdL_seq, cdL_region, cdL_drawn, cdL_cond, cdL_block, cdL_skip, cdL_label, cdL_exit, cdL_ret, endL, evSeq, evOne, evAct, evOp, opKind, evPure, evRead, evNew, evWrite, evSlice, natOf, optVal, readAt, AV.cells, wantedA, putTm, val, allVals, evBin, evInt, evStr, evAppend, evMin, denseFrom, sizesAre, onesIn, evPlan, recheck, AV.beq_refl, H.new, H.put, fillF, fillAt, allOne, AV.one, setArgs, evRes, resOf, ofVal, ofVal0, blt_dec, ble_dec, beq_dec, T.get_set_ite, T.get_e, isShift, ikBeq, ty_0, ty_1, ty_2, ty_3, ty_4, ty_5, ty_6, ty_7, ty_8, ty_9, ty_10, ty_11, ty_12, ty_13, ty_14, ty_15, ty_16, ty_17, ty_18, ty_19, ty_20, ty_21, ty_22, ty_23, ty_24, ty_25, ty_26, ty_27, ty_28, ty_29, ty_30, ty_31, ty_32, ty_33, ty_34, ty_35, ty_36, ty_37, ty_38, ty_39, ty_40, ty_41, ty_42, ty_43, ty_44, ty_45, ty_46, ty_47, ty_48, ty_49, ty_50, ty_51, ty_52, ty_53, ty_54, ty_55, ty_56, ty_57, ty_58, ty_59, ty_60, ty_61, ty_62, ty_63, ty_64, ty_65, ty_66, ty_67, ty_68, ty_69, ty_70, ty_71, ty_72, ty_73, ty_74, ty_75, ty_76, ty_77, ty_78, ty_79, ty_80, ty_81, ty_82, ty_83, ty_84, ty_85, ty_86, ty_87, ty_88, ty_89, ty_90, ty_91, ty_92, ty_93, ty_94, ty_95, ty_96, ty_97, ty_98, ty_99, ty_100, ty_101, ty_102, ty_103, ty_104, ty_105, ty_106, ty_107, ty_108, ty_109, ty_110, ty_111, ty_112, ty_113, ty_114, ty_115, ty_116, ty_117, ty_118, ty_119, ty_120, ty_121, ty_122, ty_123, ty_124, ty_125, ty_126, ty_127, ty_128, ty_129, pl_3_4, pl_4_3, pl_6_5, pl_9_1, pl_14_6, pl_18_6, pl_20_1, pl_29_6, pl_29_11, pl_30_3, pl_30_5, pl_30_9, pl_33_1, pl_33_10, pl_38_17, pl_46_4, pl_46_6, pl_47_10, pl_48_10, pl_50_3, pl_51_5, pl_51_11, pl_51_16, pl_51_17, pl_51_22, pl_51_23, pl_53_1, pl_53_3, pl_53_5, pl_53_8, pl_54_1, pl_54_3, pl_54_5, pl_54_8, pl_54_10, pl_54_13, pl_54_15, pl_54_18, pl_54_21, pl_60_3, pl_60_5, pl_60_6, pl_62_1, pl_62_2, pl_62_3, pl_69_1, pl_72_3, pl_88_9, pl_88_18, pl_89_9, lp, hty, hpl, g1, g2, g3, g8, hz, z1, z2, hkn, hlt', hat, e1, e2, kB, kF, hw, -evAppend] at hx
    rw [hR] at hx
    obtain ⟨tm', h', w', q1, q2⟩ := loop30_1 hty hpl h41 hkl hf hd hsz hc l (i + 1) .no (freeR k (bound ++ bindR t.op t.name t.arg ↑i) out) hx hd' hlt (by omega) z2' (by omega) (by simp [T.get_set_ite, g1]) (by simp [T.get_set_ite]) (by simp [T.get_set_ite, g3]) (by simp [T.get_set_ite])
    exact ⟨tm', h', w', q1, by simpa [freeRL] using q2⟩
end Go.Proofs.YtmnhhlkbpjemnaaDoor.Env
