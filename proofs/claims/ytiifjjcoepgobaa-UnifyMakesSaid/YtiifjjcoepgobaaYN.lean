/- Vars replaced: the reference's Put. -/
import Derived.Test.YtiifjjcoepgobaaYL
set_option autoImplicit false
set_option maxRecDepth 100000
set_option linter.unusedSimpArgs false
set_option linter.unusedVariables false
set_option linter.unusedSectionVars false
namespace Go.Proofs.Ytiifjjcoepgobaa.Env
open Go.Ev

def lookP : List Int → List Ty → Int → Option Ty
  | k :: l, u :: us, n => bif intBeq k n then some u else lookP l us n
  | _, _, _ => none
mutual
def putF : Ty → List Int → List Ty → Ty
  | .mk o n ks, l, us => bif natsBeq o varS then (match lookP l us n with | none => .mk o n ks | some u => u) else .mk o n (putL ks l us)
def putL : List Ty → List Int → List Ty → List Ty
  | [], _, _ => []
  | t :: ts, l, us => putF t l us :: putL ts l us
end
noncomputable def b24_0 : Code := loopOf Try.f24 0
noncomputable def b24_1 : Code := loopOf Try.f24 1
theorem body24 : Try.f24.body = some (.seq (codeAt Try.f24 [0]) (.seq (.seq (codeAt Try.f24 [1, 0, 0]) (.cond (condAt Try.f24 [1, 0, 1]) (.seq (.seq (codeAt Try.f24 [1, 0, 1, 0, 0, 0]) (.block 0 (.loop b24_0))) (codeAt Try.f24 [1, 0, 1, 0, 1])) (codeAt Try.f24 [1, 0, 1, 1]))) (.seq (codeAt Try.f24 [1, 1, 0]) (.seq (.seq (codeAt Try.f24 [1, 1, 1, 0, 0]) (.block 2 (.loop b24_1))) (codeAt Try.f24 [1, 1, 1, 1]))))) := rfl
theorem loop24_0 {E : Env} (hty : E.ty = env.ty) (hpl : E.plan = env.plan) {L : List Int} {U : List Ty} {n : Int} {o : List Nat} {ks : List Ty} (hl : L.length ≤ 1000000) (hlu : L.length ≤ U.length) :
    ∀ (l : List Int) (us : List Ty) (i : Nat) {tm : Tm} {h : H} {x : Option (Ex × Tm × H)}, cdL E 24 57 (.loop b24_0) tm h = x → l = L.drop i → us = U.drop i → i ≤ L.length →
    tm.get 1 = some (.sl .no (ints L)) → tm.get 2 = some (.sl .no (Ty.avs U)) → tm.get 3 = some (.ptr (some (0, 0))) → tm.get 6 = some (.ptr (some (1, 0))) → tm.get 7 = some (.int .i64 ↑i) → h.t.get 0 = some (.cells [.str o, .int .i64 n, .sl .no (Ty.avs ks)]) → h.t.get 1 = some (.cells [.str [], .int .i64 0, .sl .full []]) →
    ∃ tm', match lookP l us n with
      | none => x = some (.exit 0, tm', h) ∧ tm'.get 3 = some (.ptr (some (0, 0))) ∧ tm'.get 6 = some (.ptr (some (1, 0)))
      | some u => x = some (.ret, tm', h.put 1 (.cells u.av.cells)) ∧ tm'.get 6 = some (.ptr (some (1, 0)))
  | [], us, i, tm, h, x, hx, hd, hdu, hi, h1, h2, h3, h6, h7, hz, hz1 => by
    have hlen := dnil hd hi
    have hil : (ints L).length = i := by rw [ints_len]; exact hlen
    obtain ⟨R, hR, hx⟩ := loop_step hx
    simp [b24_0, loopOf, Try.f24, loops, cdL_seq, cdL_region, cdL_drawn, cdL_cond, cdL_block, cdL_skip, cdL_label, cdL_exit, cdL_ret, endL, evSeq, evOne, evAct, evOp, opKind, evPure, evRead, evNew, evWrite, evSlice, natOf, optVal, readAt, AV.cells, wantedA, putTm, val, allVals, evBin, evInt, evStr, evAppend, denseFrom, sizesAre, onesIn, evPlan, recheck, AV.beq_refl, H.new, H.put, fillF, fillAt, allOne, AV.one, setArgs, evRes, resOf, ofVal, ofVal0, blt_dec, ble_dec, beq_dec, T.get_set_ite, T.get_e, isShift, ikBeq, ty_0, ty_1, ty_2, ty_3, ty_4, ty_5, ty_6, ty_7, ty_8, ty_9, ty_10, ty_11, ty_12, ty_13, ty_14, ty_15, ty_16, ty_17, ty_18, ty_19, ty_20, ty_21, ty_22, ty_23, ty_24, ty_25, ty_26, ty_27, ty_28, ty_29, ty_30, ty_31, ty_32, ty_33, ty_34, ty_35, ty_36, ty_37, ty_38, ty_39, ty_40, ty_41, ty_42, ty_43, ty_44, ty_45, ty_46, ty_47, ty_48, ty_49, ty_50, ty_51, ty_52, ty_53, ty_54, ty_55, ty_56, ty_57, ty_58, ty_59, ty_60, ty_61, ty_62, ty_63, ty_64, ty_65, ty_66, ty_67, ty_68, ty_69, ty_70, ty_71, ty_72, ty_73, ty_74, ty_75, ty_76, ty_77, ty_78, pl_3_7, pl_3_12, pl_3_14, pl_3_15, pl_3_17, pl_4_12, pl_5_7, pl_6_16, pl_6_21, pl_7_3, pl_7_7, pl_8_5, pl_12_3, pl_13_1, pl_13_11, pl_15_6, pl_16_8, pl_17_4, pl_19_5, pl_19_12, pl_24_5, pl_24_12, pl_26_1, pl_27_2, pl_28_3, pl_30_3, pl_33_2, lp, hty, hpl, h1, h2, h3, h6, h7, hil, ltI_f] at hx
    exact ⟨_, by simp only [lookP]; exact ⟨hx.symm, by simp [T.get_set_ite, h3], by simp [T.get_set_ite, h6]⟩⟩
  | c :: l, [], i, tm, h, x, hx, hd, hdu, hi, h1, h2, h3, h6, h7, hz, hz1 => by
    obtain ⟨hlt, _, _⟩ := dcons hd
    have := congrArg List.length hdu
    simp at this
    omega
  | c :: l, u :: us, i, tm, h, x, hx, hd, hdu, hi, h1, h2, h3, h6, h7, hz, hz1 => by
    obtain ⟨hlt, hc, hd'⟩ := dcons hd
    obtain ⟨hltu, hcu, hdu'⟩ := dcons hdu
    have hil := ints_len L
    have hic : (ints L)[i]? = some (.int .i64 c) := by unfold ints; rw [List.getElem?_map, hc]; rfl
    have hau := avs_get hcu
    obtain ⟨u0, u1, u2, hu⟩ := av_cells u
    rw [hu] at hau
    obtain ⟨R, hR, hx⟩ := loop_step hx
    have hlt' := ltI_t hlt
    have hw := wr_succ (i := i) (by omega)
    cases hb : intBeq c n with
    | true =>
      simp [b24_0, loopOf, Try.f24, loops, cdL_seq, cdL_region, cdL_drawn, cdL_cond, cdL_block, cdL_skip, cdL_label, cdL_exit, cdL_ret, endL, evSeq, evOne, evAct, evOp, opKind, evPure, evRead, evNew, evWrite, evSlice, natOf, optVal, readAt, AV.cells, wantedA, putTm, val, allVals, evBin, evInt, evStr, evAppend, denseFrom, sizesAre, onesIn, evPlan, recheck, AV.beq_refl, H.new, H.put, fillF, fillAt, allOne, AV.one, setArgs, evRes, resOf, ofVal, ofVal0, blt_dec, ble_dec, beq_dec, T.get_set_ite, T.get_e, isShift, ikBeq, ty_0, ty_1, ty_2, ty_3, ty_4, ty_5, ty_6, ty_7, ty_8, ty_9, ty_10, ty_11, ty_12, ty_13, ty_14, ty_15, ty_16, ty_17, ty_18, ty_19, ty_20, ty_21, ty_22, ty_23, ty_24, ty_25, ty_26, ty_27, ty_28, ty_29, ty_30, ty_31, ty_32, ty_33, ty_34, ty_35, ty_36, ty_37, ty_38, ty_39, ty_40, ty_41, ty_42, ty_43, ty_44, ty_45, ty_46, ty_47, ty_48, ty_49, ty_50, ty_51, ty_52, ty_53, ty_54, ty_55, ty_56, ty_57, ty_58, ty_59, ty_60, ty_61, ty_62, ty_63, ty_64, ty_65, ty_66, ty_67, ty_68, ty_69, ty_70, ty_71, ty_72, ty_73, ty_74, ty_75, ty_76, ty_77, ty_78, pl_3_7, pl_3_12, pl_3_14, pl_3_15, pl_3_17, pl_4_12, pl_5_7, pl_6_16, pl_6_21, pl_7_3, pl_7_7, pl_8_5, pl_12_3, pl_13_1, pl_13_11, pl_15_6, pl_16_8, pl_17_4, pl_19_5, pl_19_12, pl_24_5, pl_24_12, pl_26_1, pl_27_2, pl_28_3, pl_30_3, pl_33_2, lp, hty, hpl, h1, h2, h3, h6, h7, hil, hlt', hic, hau, hz, hz1, hb, hw] at hx
      exact ⟨_, by simp only [lookP, hb, cond_true]; exact ⟨by rw [← hx, hu]; rfl, by simp [T.get_set_ite, h6]⟩⟩
    | false =>
      simp [b24_0, loopOf, Try.f24, loops, cdL_seq, cdL_region, cdL_drawn, cdL_cond, cdL_block, cdL_skip, cdL_label, cdL_exit, cdL_ret, endL, evSeq, evOne, evAct, evOp, opKind, evPure, evRead, evNew, evWrite, evSlice, natOf, optVal, readAt, AV.cells, wantedA, putTm, val, allVals, evBin, evInt, evStr, evAppend, denseFrom, sizesAre, onesIn, evPlan, recheck, AV.beq_refl, H.new, H.put, fillF, fillAt, allOne, AV.one, setArgs, evRes, resOf, ofVal, ofVal0, blt_dec, ble_dec, beq_dec, T.get_set_ite, T.get_e, isShift, ikBeq, ty_0, ty_1, ty_2, ty_3, ty_4, ty_5, ty_6, ty_7, ty_8, ty_9, ty_10, ty_11, ty_12, ty_13, ty_14, ty_15, ty_16, ty_17, ty_18, ty_19, ty_20, ty_21, ty_22, ty_23, ty_24, ty_25, ty_26, ty_27, ty_28, ty_29, ty_30, ty_31, ty_32, ty_33, ty_34, ty_35, ty_36, ty_37, ty_38, ty_39, ty_40, ty_41, ty_42, ty_43, ty_44, ty_45, ty_46, ty_47, ty_48, ty_49, ty_50, ty_51, ty_52, ty_53, ty_54, ty_55, ty_56, ty_57, ty_58, ty_59, ty_60, ty_61, ty_62, ty_63, ty_64, ty_65, ty_66, ty_67, ty_68, ty_69, ty_70, ty_71, ty_72, ty_73, ty_74, ty_75, ty_76, ty_77, ty_78, pl_3_7, pl_3_12, pl_3_14, pl_3_15, pl_3_17, pl_4_12, pl_5_7, pl_6_16, pl_6_21, pl_7_3, pl_7_7, pl_8_5, pl_12_3, pl_13_1, pl_13_11, pl_15_6, pl_16_8, pl_17_4, pl_19_5, pl_19_12, pl_24_5, pl_24_12, pl_26_1, pl_27_2, pl_28_3, pl_30_3, pl_33_2, lp, hty, hpl, h1, h2, h3, h6, h7, hil, hlt', hic, hau, hz, hz1, hb, hw] at hx
      rw [hR] at hx
      simp only [lookP, hb, cond_false]
      exact loop24_0 (n := n) (o := o) hty hpl hl hlu l us (i + 1) hx hd' hdu' hlt (by simp [T.get_set_ite, h1]) (by simp [T.get_set_ite, h2]) (by simp [T.get_set_ite, h3]) (by simp [T.get_set_ite, h6]) (by simp [T.get_set_ite]) hz hz1
theorem loop24_1 {E : Env} (hty : E.ty = env.ty) (hpl : E.plan = env.plan) {L : List Int} {U : List Ty} {n : Int} {o : List Nat} {ks : List Ty} {d : Nat} (hl : ks.length ≤ 1000000) (hf : goods ks) (hd : deps ks ≤ d)
    (hc : ∀ t h, dep t ≤ d → good t → evL E 24 [t.av, .sl .no (ints L), .sl .no (Ty.avs U)] h = some ((putF t L U).av, h)) :
    ∀ (l done : List Ty) (i : Nat) (w : Own) {tm : Tm} {h : H} {x : Option (Ex × Tm × H)}, cdL E 24 57 (.loop b24_1) tm h = x → l = ks.drop i → i ≤ ks.length → done.length = i →
    tm.get 1 = some (.sl .no (ints L)) → tm.get 2 = some (.sl .no (Ty.avs U)) → tm.get 3 = some (.ptr (some (0, 0))) → tm.get 6 = some (.ptr (some (1, 0))) → tm.get 8 = some (.ptr (some (2, 0))) → tm.get 9 = some (.int .i64 ↑i) →
    h.t.get 0 = some (.cells [.str o, .int .i64 n, .sl .no (Ty.avs ks)]) → h.t.get 1 = some (.cells [.str [], .int .i64 0, .sl .full []]) → h.t.get 2 = some (.cells [.str o, .int .i64 n, .sl w (Ty.avs done)]) → 3 ≤ h.nx → RowE 25 3 h w (Ty.avs done) → (∀ id, w = .ch id → 3 ≤ id) →
    ∃ tm' h' w', x = some (.exit 2, tm', h') ∧ tm'.get 6 = some (.ptr (some (1, 0))) ∧ tm'.get 8 = some (.ptr (some (2, 0))) ∧ h'.t.get 1 = some (.cells [.str [], .int .i64 0, .sl .full []]) ∧ h'.t.get 2 = some (.cells [.str o, .int .i64 n, .sl w' (Ty.avs (done ++ putL l L U))])
  | [], done, i, w, tm, h, x, hx, hdr, hi, hdl, h1, h2, h3, h6, h8, h9, hz, hz1, hz2, hn, hr, hw3 => by
    have hlen := dnil hdr hi
    have hil : (Ty.avs ks).length = i := by rw [avs_len]; exact hlen
    obtain ⟨R, hR, hx⟩ := loop_step hx
    simp [b24_1, loopOf, Try.f24, loops, cdL_seq, cdL_region, cdL_drawn, cdL_cond, cdL_block, cdL_skip, cdL_label, cdL_exit, cdL_ret, endL, evSeq, evOne, evAct, evOp, opKind, evPure, evRead, evNew, evWrite, evSlice, natOf, optVal, readAt, AV.cells, wantedA, putTm, val, allVals, evBin, evInt, evStr, evAppend, denseFrom, sizesAre, onesIn, evPlan, recheck, AV.beq_refl, H.new, H.put, fillF, fillAt, allOne, AV.one, setArgs, evRes, resOf, ofVal, ofVal0, blt_dec, ble_dec, beq_dec, T.get_set_ite, T.get_e, isShift, ikBeq, ty_0, ty_1, ty_2, ty_3, ty_4, ty_5, ty_6, ty_7, ty_8, ty_9, ty_10, ty_11, ty_12, ty_13, ty_14, ty_15, ty_16, ty_17, ty_18, ty_19, ty_20, ty_21, ty_22, ty_23, ty_24, ty_25, ty_26, ty_27, ty_28, ty_29, ty_30, ty_31, ty_32, ty_33, ty_34, ty_35, ty_36, ty_37, ty_38, ty_39, ty_40, ty_41, ty_42, ty_43, ty_44, ty_45, ty_46, ty_47, ty_48, ty_49, ty_50, ty_51, ty_52, ty_53, ty_54, ty_55, ty_56, ty_57, ty_58, ty_59, ty_60, ty_61, ty_62, ty_63, ty_64, ty_65, ty_66, ty_67, ty_68, ty_69, ty_70, ty_71, ty_72, ty_73, ty_74, ty_75, ty_76, ty_77, ty_78, pl_3_7, pl_3_12, pl_3_14, pl_3_15, pl_3_17, pl_4_12, pl_5_7, pl_6_16, pl_6_21, pl_7_3, pl_7_7, pl_8_5, pl_12_3, pl_13_1, pl_13_11, pl_15_6, pl_16_8, pl_17_4, pl_19_5, pl_19_12, pl_24_5, pl_24_12, pl_26_1, pl_27_2, pl_28_3, pl_30_3, pl_33_2, lp, hty, hpl, h1, h2, h3, h6, h8, h9, hz, hil, ltI_f] at hx
    exact ⟨_, h, w, hx.symm, by simp [T.get_set_ite, h6], by simp [T.get_set_ite, h8], hz1, by simpa [putL] using hz2⟩
  | t :: l, done, i, w, tm, h, x, hx, hdr, hi, hdl, h1, h2, h3, h6, h8, h9, hz, hz1, hz2, hn, hr, hw3 => by
    obtain ⟨hlt, hct, hd'⟩ := dcons hdr
    have hil := avs_len ks
    have hat := avs_get hct
    have htm := List.mem_of_getElem? hct
    obtain ⟨R, hR, hx⟩ := loop_step hx
    have hlt' := ltI_t hlt
    have hw := wr_succ (i := i) (by omega)
    have hcall := fun h => hc t h (Nat.le_trans (dep_mem htm) hd) (goods_mem.1 hf t htm)
    obtain ⟨t0, t1, t2, ht⟩ := av_cells t
    obtain ⟨u0, u1, u2, hu⟩ := av_cells (putF t L U)
    have hadd := avs_add done (putF t L U)
    have hsz := avs_sizes done
    have hdl2 := avs_len done
    have hby : (done.length + 1) * 48 ≤ 140737488355328 := by omega
    rw [ht] at hat hcall
    rw [hu] at hcall hadd
    rcases hr with ⟨rfl, e0⟩ | ⟨id, rfl, hg, hid⟩
    · have eL : done = [] := by cases done with | nil => rfl | cons a l => simp [Ty.avs] at e0
      subst eL
      simp only [Ty.avs] at hz2 hadd
      have n0 : (0 : Nat) ≠ h.nx := by omega
      have n1 : (1 : Nat) ≠ h.nx := by omega
      have n2 : (2 : Nat) ≠ h.nx := by omega
      have n2' : h.nx ≠ 2 := by omega
      simp [b24_1, loopOf, Try.f24, loops, cdL_seq, cdL_region, cdL_drawn, cdL_cond, cdL_block, cdL_skip, cdL_label, cdL_exit, cdL_ret, endL, evSeq, evOne, evAct, evOp, opKind, evPure, evRead, evNew, evWrite, evSlice, natOf, optVal, readAt, AV.cells, wantedA, putTm, val, allVals, evBin, evInt, evStr, evAppend, denseFrom, sizesAre, onesIn, evPlan, recheck, AV.beq_refl, H.new, H.put, fillF, fillAt, allOne, AV.one, setArgs, evRes, resOf, ofVal, ofVal0, blt_dec, ble_dec, beq_dec, T.get_set_ite, T.get_e, isShift, ikBeq, ty_0, ty_1, ty_2, ty_3, ty_4, ty_5, ty_6, ty_7, ty_8, ty_9, ty_10, ty_11, ty_12, ty_13, ty_14, ty_15, ty_16, ty_17, ty_18, ty_19, ty_20, ty_21, ty_22, ty_23, ty_24, ty_25, ty_26, ty_27, ty_28, ty_29, ty_30, ty_31, ty_32, ty_33, ty_34, ty_35, ty_36, ty_37, ty_38, ty_39, ty_40, ty_41, ty_42, ty_43, ty_44, ty_45, ty_46, ty_47, ty_48, ty_49, ty_50, ty_51, ty_52, ty_53, ty_54, ty_55, ty_56, ty_57, ty_58, ty_59, ty_60, ty_61, ty_62, ty_63, ty_64, ty_65, ty_66, ty_67, ty_68, ty_69, ty_70, ty_71, ty_72, ty_73, ty_74, ty_75, ty_76, ty_77, ty_78, pl_3_7, pl_3_12, pl_3_14, pl_3_15, pl_3_17, pl_4_12, pl_5_7, pl_6_16, pl_6_21, pl_7_3, pl_7_7, pl_8_5, pl_12_3, pl_13_1, pl_13_11, pl_15_6, pl_16_8, pl_17_4, pl_19_5, pl_19_12, pl_24_5, pl_24_12, pl_26_1, pl_27_2, pl_28_3, pl_30_3, pl_33_2, lp, hty, hpl, h1, h2, h3, h6, h8, h9, hz, hz1, hz2, hil, hlt', hat, hw, hcall, n2] at hx
      rw [hR] at hx
      simp only [List.nil_append] at hadd
      obtain ⟨tm', h', w', q1, q2, q3, q4, q5⟩ := loop24_1 (n := n) (o := o) hty hpl hl hf hd hc l [putF t L U] (i + 1) (.ch h.nx) hx hd' hlt (by simp at hdl ⊢; omega) (by simp [T.get_set_ite, h1]) (by simp [T.get_set_ite, h2]) (by simp [T.get_set_ite, h3]) (by simp [T.get_set_ite, h6]) (by simp [T.get_set_ite, h8]) (by simp [T.get_set_ite])
        (by simp [T.get_set_ite, n0, hz]) (by simp [T.get_set_ite, n1, hz1]) (by simp [T.get_set_ite, hadd]) (by simp; omega) (.inr ⟨_, rfl, by simp [T.get_set_ite, n2', Ty.avs], by simp⟩) (fun id e => by cases e; omega)
      exact ⟨tm', h', w', q1, q2, q3, q4, by simpa [putL] using q5⟩
    · have h3i := hw3 id rfl
      have n0 : (0 : Nat) ≠ id := by omega
      have n1 : (1 : Nat) ≠ id := by omega
      have n2 : (2 : Nat) ≠ id := by omega
      have n2' : id ≠ 2 := by omega
      rw [hdl2] at hg
      simp [b24_1, loopOf, Try.f24, loops, cdL_seq, cdL_region, cdL_drawn, cdL_cond, cdL_block, cdL_skip, cdL_label, cdL_exit, cdL_ret, endL, evSeq, evOne, evAct, evOp, opKind, evPure, evRead, evNew, evWrite, evSlice, natOf, optVal, readAt, AV.cells, wantedA, putTm, val, allVals, evBin, evInt, evStr, evAppend, denseFrom, sizesAre, onesIn, evPlan, recheck, AV.beq_refl, H.new, H.put, fillF, fillAt, allOne, AV.one, setArgs, evRes, resOf, ofVal, ofVal0, blt_dec, ble_dec, beq_dec, T.get_set_ite, T.get_e, isShift, ikBeq, ty_0, ty_1, ty_2, ty_3, ty_4, ty_5, ty_6, ty_7, ty_8, ty_9, ty_10, ty_11, ty_12, ty_13, ty_14, ty_15, ty_16, ty_17, ty_18, ty_19, ty_20, ty_21, ty_22, ty_23, ty_24, ty_25, ty_26, ty_27, ty_28, ty_29, ty_30, ty_31, ty_32, ty_33, ty_34, ty_35, ty_36, ty_37, ty_38, ty_39, ty_40, ty_41, ty_42, ty_43, ty_44, ty_45, ty_46, ty_47, ty_48, ty_49, ty_50, ty_51, ty_52, ty_53, ty_54, ty_55, ty_56, ty_57, ty_58, ty_59, ty_60, ty_61, ty_62, ty_63, ty_64, ty_65, ty_66, ty_67, ty_68, ty_69, ty_70, ty_71, ty_72, ty_73, ty_74, ty_75, ty_76, ty_77, ty_78, pl_3_7, pl_3_12, pl_3_14, pl_3_15, pl_3_17, pl_4_12, pl_5_7, pl_6_16, pl_6_21, pl_7_3, pl_7_7, pl_8_5, pl_12_3, pl_13_1, pl_13_11, pl_15_6, pl_16_8, pl_17_4, pl_19_5, pl_19_12, pl_24_5, pl_24_12, pl_26_1, pl_27_2, pl_28_3, pl_30_3, pl_33_2, lp, hty, hpl, h1, h2, h3, h6, h8, h9, hz, hz1, hz2, hil, hlt', hat, hw, hcall, n2, hg, hsz, hdl2, hby, hadd] at hx
      rw [hR] at hx
      obtain ⟨tm', h', w', q1, q2, q3, q4, q5⟩ := loop24_1 (n := n) (o := o) hty hpl hl hf hd hc l (done ++ [putF t L U]) (i + 1) (.ch id) hx hd' hlt (by simp; omega) (by simp [T.get_set_ite, h1]) (by simp [T.get_set_ite, h2]) (by simp [T.get_set_ite, h3]) (by simp [T.get_set_ite, h6]) (by simp [T.get_set_ite, h8]) (by simp [T.get_set_ite])
        (by simp [T.get_set_ite, n0, hz]) (by simp [T.get_set_ite, n1, hz1]) (by simp [T.get_set_ite]) (by simp; omega) (.inr ⟨_, rfl, by simp [T.get_set_ite, n2', avs_len], by simp; omega⟩) hw3
      exact ⟨tm', h', w', q1, q2, q3, q4, by simpa [putL] using q5⟩
def q24 (d : Nat) (t : Ty) (l : List Int) (us : List Ty) : Prop := dep t ≤ d ∧ good t ∧ l.length ≤ us.length ∧ l.length ≤ 1000000
noncomputable abbrev pd24 (d : Nat) := primVal (ofRel (Rel3 (q24 d) putF))
theorem ints_enc (l : List Int) : (Enc.enc l : AV) = .sl .no (ints l) := rfl
theorem avs_enc (l : List Ty) : (Enc.enc l : AV) = .sl .no (Ty.avs l) := by rw [Ty.avs_map]; rfl
theorem pd24_ok : ∀ d, PrimOk Try.prog 24 (pd24 d) := prim_rec envA_ok (prim_none Try.func24 (by kernel_rfl) (by kernel_rfl) (prim_empty3 fun a b c h => by have := dep_pos a; have := h.1; omega)) fun d hE => by
  refine prim3_ok hE (fn := Try.f24) (by kernel_rfl) body24 (by kernel_rfl) fun t L U hq => ?_
  obtain ⟨hdp, hg, hlu, hl⟩ := hq
  have hcall : ∀ t h, dep t ≤ d → good t → evL (addPrim envA 24 (pd24 d)) 24 [t.av, .sl .no (ints L), .sl .no (Ty.avs U)] h = some ((putF t L U).av, h) := fun t h h1 h2 =>
    prim3_call (a := t) (b := L) (c := U) (F := putF) (q := q24 d) (by kernel_rfl) (Enc.bare 0 t) (by rw [← ints_enc]; exact Enc.bare 0 L) (by rw [← avs_enc]; exact Enc.bare 0 U) ⟨h1, h2, hlu, hl⟩ h
  generalize hEe : addPrim envA 24 (pd24 d) = E at *
  have hty : E.ty = env.ty := by rw [← hEe]; rfl
  have hpl : E.plan = env.plan := by rw [← hEe]; rfl
  obtain ⟨o, n, ks⟩ := t
  simp only [dep] at hdp
  simp only [good] at hg
  rw [ints_enc, avs_enc, show (Enc.enc (Ty.mk o n ks) : AV) = (Ty.mk o n ks).av from rfl]
  have hv : natsBeq o varS = natsBeq o [118, 97, 114] := rfl
  have hcd : condAt Try.f24 [1, 0, 1] = .tmp 12 := rfl
  have eF : putF (.mk o n ks) L U = bif natsBeq o [118, 97, 114] then (match lookP L U n with | none => .mk o n ks | some u => u) else .mk o n (putL ks L U) := by rw [putF, hv]
  rw [eF]
  unfold bodyL
  rw [hcd]
  cases h1 : natsBeq o [118, 97, 114] with
  | true =>
    simp only [codeAt, sub, Try.f24]
    simp [cdL_seq, cdL_region, cdL_drawn, cdL_cond, cdL_block, cdL_skip, cdL_label, cdL_exit, cdL_ret, endL, evSeq, evOne, evAct, evOp, opKind, evPure, evRead, evNew, evWrite, evSlice, natOf, optVal, readAt, AV.cells, wantedA, putTm, val, allVals, evBin, evInt, evStr, evAppend, denseFrom, sizesAre, onesIn, evPlan, recheck, AV.beq_refl, H.new, H.put, fillF, fillAt, allOne, AV.one, setArgs, evRes, resOf, ofVal, ofVal0, blt_dec, ble_dec, beq_dec, T.get_set_ite, T.get_e, isShift, ikBeq, ty_0, ty_1, ty_2, ty_3, ty_4, ty_5, ty_6, ty_7, ty_8, ty_9, ty_10, ty_11, ty_12, ty_13, ty_14, ty_15, ty_16, ty_17, ty_18, ty_19, ty_20, ty_21, ty_22, ty_23, ty_24, ty_25, ty_26, ty_27, ty_28, ty_29, ty_30, ty_31, ty_32, ty_33, ty_34, ty_35, ty_36, ty_37, ty_38, ty_39, ty_40, ty_41, ty_42, ty_43, ty_44, ty_45, ty_46, ty_47, ty_48, ty_49, ty_50, ty_51, ty_52, ty_53, ty_54, ty_55, ty_56, ty_57, ty_58, ty_59, ty_60, ty_61, ty_62, ty_63, ty_64, ty_65, ty_66, ty_67, ty_68, ty_69, ty_70, ty_71, ty_72, ty_73, ty_74, ty_75, ty_76, ty_77, ty_78, pl_3_7, pl_3_12, pl_3_14, pl_3_15, pl_3_17, pl_4_12, pl_5_7, pl_6_16, pl_6_21, pl_7_3, pl_7_7, pl_8_5, pl_12_3, pl_13_1, pl_13_11, pl_15_6, pl_16_8, pl_17_4, pl_19_5, pl_19_12, pl_24_5, pl_24_12, pl_26_1, pl_27_2, pl_28_3, pl_30_3, pl_33_2, hty, hpl, Ty.av, h1, bytesOf]
    generalize hx : cdL E 24 57 (.loop b24_0) _ _ = x
    obtain ⟨tm', res⟩ := loop24_0 hty hpl (L := L) (U := U) (n := n) (o := o) (ks := ks) hl hlu L U 0 hx rfl rfl (Nat.zero_le _) (by simp [T.get_set_ite]) (by simp [T.get_set_ite]) (by simp [T.get_set_ite]) (by simp [T.get_set_ite]) (by simp [T.get_set_ite]) (by simp [T.get_set_ite]) (by simp [T.get_set_ite])
    cases hk : lookP L U n with
    | none =>
      rw [hk] at res
      obtain ⟨rfl, g3, g6⟩ := res
      simp [cdL_seq, cdL_region, cdL_drawn, cdL_cond, cdL_block, cdL_skip, cdL_label, cdL_exit, cdL_ret, endL, evSeq, evOne, evAct, evOp, opKind, evPure, evRead, evNew, evWrite, evSlice, natOf, optVal, readAt, AV.cells, wantedA, putTm, val, allVals, evBin, evInt, evStr, evAppend, denseFrom, sizesAre, onesIn, evPlan, recheck, AV.beq_refl, H.new, H.put, fillF, fillAt, allOne, AV.one, setArgs, evRes, resOf, ofVal, ofVal0, blt_dec, ble_dec, beq_dec, T.get_set_ite, T.get_e, isShift, ikBeq, ty_0, ty_1, ty_2, ty_3, ty_4, ty_5, ty_6, ty_7, ty_8, ty_9, ty_10, ty_11, ty_12, ty_13, ty_14, ty_15, ty_16, ty_17, ty_18, ty_19, ty_20, ty_21, ty_22, ty_23, ty_24, ty_25, ty_26, ty_27, ty_28, ty_29, ty_30, ty_31, ty_32, ty_33, ty_34, ty_35, ty_36, ty_37, ty_38, ty_39, ty_40, ty_41, ty_42, ty_43, ty_44, ty_45, ty_46, ty_47, ty_48, ty_49, ty_50, ty_51, ty_52, ty_53, ty_54, ty_55, ty_56, ty_57, ty_58, ty_59, ty_60, ty_61, ty_62, ty_63, ty_64, ty_65, ty_66, ty_67, ty_68, ty_69, ty_70, ty_71, ty_72, ty_73, ty_74, ty_75, ty_76, ty_77, ty_78, pl_3_7, pl_3_12, pl_3_14, pl_3_15, pl_3_17, pl_4_12, pl_5_7, pl_6_16, pl_6_21, pl_7_3, pl_7_7, pl_8_5, pl_12_3, pl_13_1, pl_13_11, pl_15_6, pl_16_8, pl_17_4, pl_19_5, pl_19_12, pl_24_5, pl_24_12, pl_26_1, pl_27_2, pl_28_3, pl_30_3, pl_33_2, hty, hpl, g3, g6]
      have := Ty.av_bare 0 (.mk o n ks)
      simpa [Ty.av, Enc.enc] using this
    | some u =>
      rw [hk] at res
      obtain ⟨rfl, g6⟩ := res
      obtain ⟨u0, u1, u2, hu⟩ := av_cells u
      have := Ty.av_bare 0 u
      simp only [Enc.enc]
      rw [hu] at this ⊢
      simp [cdL_seq, cdL_region, cdL_drawn, cdL_cond, cdL_block, cdL_skip, cdL_label, cdL_exit, cdL_ret, endL, evSeq, evOne, evAct, evOp, opKind, evPure, evRead, evNew, evWrite, evSlice, natOf, optVal, readAt, AV.cells, wantedA, putTm, val, allVals, evBin, evInt, evStr, evAppend, denseFrom, sizesAre, onesIn, evPlan, recheck, AV.beq_refl, H.new, H.put, fillF, fillAt, allOne, AV.one, setArgs, evRes, resOf, ofVal, ofVal0, blt_dec, ble_dec, beq_dec, T.get_set_ite, T.get_e, isShift, ikBeq, ty_0, ty_1, ty_2, ty_3, ty_4, ty_5, ty_6, ty_7, ty_8, ty_9, ty_10, ty_11, ty_12, ty_13, ty_14, ty_15, ty_16, ty_17, ty_18, ty_19, ty_20, ty_21, ty_22, ty_23, ty_24, ty_25, ty_26, ty_27, ty_28, ty_29, ty_30, ty_31, ty_32, ty_33, ty_34, ty_35, ty_36, ty_37, ty_38, ty_39, ty_40, ty_41, ty_42, ty_43, ty_44, ty_45, ty_46, ty_47, ty_48, ty_49, ty_50, ty_51, ty_52, ty_53, ty_54, ty_55, ty_56, ty_57, ty_58, ty_59, ty_60, ty_61, ty_62, ty_63, ty_64, ty_65, ty_66, ty_67, ty_68, ty_69, ty_70, ty_71, ty_72, ty_73, ty_74, ty_75, ty_76, ty_77, ty_78, pl_3_7, pl_3_12, pl_3_14, pl_3_15, pl_3_17, pl_4_12, pl_5_7, pl_6_16, pl_6_21, pl_7_3, pl_7_7, pl_8_5, pl_12_3, pl_13_1, pl_13_11, pl_15_6, pl_16_8, pl_17_4, pl_19_5, pl_19_12, pl_24_5, pl_24_12, pl_26_1, pl_27_2, pl_28_3, pl_30_3, pl_33_2, hty, hpl, g6]
      exact this
  | false =>
    simp only [codeAt, sub, Try.f24]
    simp [cdL_seq, cdL_region, cdL_drawn, cdL_cond, cdL_block, cdL_skip, cdL_label, cdL_exit, cdL_ret, endL, evSeq, evOne, evAct, evOp, opKind, evPure, evRead, evNew, evWrite, evSlice, natOf, optVal, readAt, AV.cells, wantedA, putTm, val, allVals, evBin, evInt, evStr, evAppend, denseFrom, sizesAre, onesIn, evPlan, recheck, AV.beq_refl, H.new, H.put, fillF, fillAt, allOne, AV.one, setArgs, evRes, resOf, ofVal, ofVal0, blt_dec, ble_dec, beq_dec, T.get_set_ite, T.get_e, isShift, ikBeq, ty_0, ty_1, ty_2, ty_3, ty_4, ty_5, ty_6, ty_7, ty_8, ty_9, ty_10, ty_11, ty_12, ty_13, ty_14, ty_15, ty_16, ty_17, ty_18, ty_19, ty_20, ty_21, ty_22, ty_23, ty_24, ty_25, ty_26, ty_27, ty_28, ty_29, ty_30, ty_31, ty_32, ty_33, ty_34, ty_35, ty_36, ty_37, ty_38, ty_39, ty_40, ty_41, ty_42, ty_43, ty_44, ty_45, ty_46, ty_47, ty_48, ty_49, ty_50, ty_51, ty_52, ty_53, ty_54, ty_55, ty_56, ty_57, ty_58, ty_59, ty_60, ty_61, ty_62, ty_63, ty_64, ty_65, ty_66, ty_67, ty_68, ty_69, ty_70, ty_71, ty_72, ty_73, ty_74, ty_75, ty_76, ty_77, ty_78, pl_3_7, pl_3_12, pl_3_14, pl_3_15, pl_3_17, pl_4_12, pl_5_7, pl_6_16, pl_6_21, pl_7_3, pl_7_7, pl_8_5, pl_12_3, pl_13_1, pl_13_11, pl_15_6, pl_16_8, pl_17_4, pl_19_5, pl_19_12, pl_24_5, pl_24_12, pl_26_1, pl_27_2, pl_28_3, pl_30_3, pl_33_2, hty, hpl, Ty.av, h1, bytesOf]
    generalize hx : cdL E 24 57 (.loop b24_1) _ _ = x
    obtain ⟨tm', h', w', rfl, g6, g8, gz1, gz2⟩ := loop24_1 hty hpl (L := L) (U := U) (n := n) (o := o) (ks := ks) hg.1 hg.2 (by omega) hcall ks [] 0 .full hx rfl (Nat.zero_le _) rfl (by simp [T.get_set_ite]) (by simp [T.get_set_ite]) (by simp [T.get_set_ite]) (by simp [T.get_set_ite]) (by simp [T.get_set_ite]) (by simp [T.get_set_ite]) (by simp [T.get_set_ite]) (by simp [T.get_set_ite]) (by simp [T.get_set_ite, Ty.avs]) (by simp) (.inl ⟨rfl, rfl⟩) (fun id e => by cases e)
    simp [cdL_seq, cdL_region, cdL_drawn, cdL_cond, cdL_block, cdL_skip, cdL_label, cdL_exit, cdL_ret, endL, evSeq, evOne, evAct, evOp, opKind, evPure, evRead, evNew, evWrite, evSlice, natOf, optVal, readAt, AV.cells, wantedA, putTm, val, allVals, evBin, evInt, evStr, evAppend, denseFrom, sizesAre, onesIn, evPlan, recheck, AV.beq_refl, H.new, H.put, fillF, fillAt, allOne, AV.one, setArgs, evRes, resOf, ofVal, ofVal0, blt_dec, ble_dec, beq_dec, T.get_set_ite, T.get_e, isShift, ikBeq, ty_0, ty_1, ty_2, ty_3, ty_4, ty_5, ty_6, ty_7, ty_8, ty_9, ty_10, ty_11, ty_12, ty_13, ty_14, ty_15, ty_16, ty_17, ty_18, ty_19, ty_20, ty_21, ty_22, ty_23, ty_24, ty_25, ty_26, ty_27, ty_28, ty_29, ty_30, ty_31, ty_32, ty_33, ty_34, ty_35, ty_36, ty_37, ty_38, ty_39, ty_40, ty_41, ty_42, ty_43, ty_44, ty_45, ty_46, ty_47, ty_48, ty_49, ty_50, ty_51, ty_52, ty_53, ty_54, ty_55, ty_56, ty_57, ty_58, ty_59, ty_60, ty_61, ty_62, ty_63, ty_64, ty_65, ty_66, ty_67, ty_68, ty_69, ty_70, ty_71, ty_72, ty_73, ty_74, ty_75, ty_76, ty_77, ty_78, pl_3_7, pl_3_12, pl_3_14, pl_3_15, pl_3_17, pl_4_12, pl_5_7, pl_6_16, pl_6_21, pl_7_3, pl_7_7, pl_8_5, pl_12_3, pl_13_1, pl_13_11, pl_15_6, pl_16_8, pl_17_4, pl_19_5, pl_19_12, pl_24_5, pl_24_12, pl_26_1, pl_27_2, pl_28_3, pl_30_3, pl_33_2, hty, hpl, g6, g8, gz1, gz2]
    have := Ty.av_bare 0 (.mk o n (putL ks L U))
    simp only [Ty.av, wk_agg, wks_cons, wk_sl, Enc.enc] at this ⊢
    exact ⟨this.1, this.2.1, ⟨own_no, by simpa using this.2.2.1.2⟩, this.2.2.2⟩
def q24' (t : Ty) (l : List Int) (us : List Ty) : Prop := good t ∧ l.length ≤ us.length ∧ l.length ≤ 1000000
noncomputable abbrev p24 := primVal (ofRel (Rel3 q24' putF))
theorem p24_ok : PrimOk Try.prog 24 p24 := prim_union pd24_ok (union3 fun a b c h => ⟨dep a, Nat.le_refl _, h⟩)
theorem c24 {E : Env} (hp : E.prim 24 = some p24) {x y z : AV} {t : Ty} {l : List Int} {us : List Ty} (hx : x.wk 0 t.av) (hy : y.wk 0 (.sl .no (ints l))) (hz : z.wk 0 (.sl .no (Ty.avs us))) (hq : q24' t l us) (h : H) : evL E 24 [x, y, z] h = some ((putF t l us).av, h) :=
  prim3_call (a := t) (b := l) (c := us) (F := putF) (q := q24') hp hx (by rw [ints_enc]; exact hy) (by rw [avs_enc]; exact hz) hq h
end Go.Proofs.Ytiifjjcoepgobaa.Env
