/- The vars of a type. -/
import Derived.Test.YtiifjjcoepgobaaYD
set_option autoImplicit false
set_option maxRecDepth 100000
set_option linter.unusedSimpArgs false
set_option linter.unusedVariables false
set_option linter.unusedSectionVars false
namespace Go.Proofs.Ytiifjjcoepgobaa.Env
open Go.Ev

mutual
def size : Ty → Nat
  | .mk _ _ ks => sizes ks + 1
def sizes : List Ty → Nat
  | [] => 0
  | t :: l => size t + sizes l
end
theorem size_mem : ∀ {l : List Ty} {t : Ty}, t ∈ l → size t ≤ sizes l
  | a :: l, t, h => by
    rcases List.mem_cons.1 h with rfl | h
    · exact Nat.le_add_right ..
    · exact Nat.le_trans (size_mem h) (Nat.le_add_left ..)
mutual
theorem szF_size : ∀ (t : Ty) (m : Int), szF t m < m → szF t m = ↑(size t)
  | .mk _ _ ks, m, h => by
    simp only [szF, size] at *
    have := szL_size ks m 1 (Int.le_refl _) h
    rw [this]; push_cast; omega
theorem szL_size : ∀ (l : List Ty) (m k : Int), 1 ≤ k → szL l m k < m → szL l m k = k + ↑(sizes l)
  | [], m, k, _, _ => by simp [szL, sizes]
  | t :: l, m, k, hk, h => by
    simp only [szL, sizes] at *
    cases hb : ltI k m with
    | false =>
      rw [hb] at h
      simp only [cond_false] at h
      have : ¬ k < m := by rw [ltI_eq] at hb; simpa using hb
      exact absurd h this
    | true =>
      have hlt : k < m := by rw [ltI_eq] at hb; simpa using hb
      rw [hb] at h
      simp only [cond_true] at h ⊢
      have h1 := szF_le t (m - k)
      have h2 := szL_le l m (k + szF t (m - k)) (by omega)
      have h3 := szF_size t (m - k) (by omega)
      rw [szL_size l m _ (by omega) h, h3]
      push_cast; omega
end
/-- A row that may be appended to. -/
def RowE (et sz : Nat) (h : H) (o : Own) (els : List AV) : Prop := (o = .full ∧ els = []) ∨ ∃ id, o = .ch id ∧ h.t.get id = some (.chain els.length et sz) ∧ id < h.nx

/-! ### vars -/
mutual
def varsF : Ty → List Int → List Int
  | .mk o n ks, out => varsL ks (bif natsBeq o varS && !hasI out n then out ++ [n] else out)
def varsL : List Ty → List Int → List Int
  | [], out => out
  | t :: l, out => varsL l (varsF t out)
end
mutual
theorem varsF_len : ∀ (t : Ty) (out : List Int), (varsF t out).length ≤ out.length + size t
  | .mk o n ks, out => by
    simp only [varsF, size]
    have := varsL_len ks (bif natsBeq o varS && !hasI out n then out ++ [n] else out)
    cases hb : (natsBeq o varS && !hasI out n) <;> rw [hb] at this <;> simp at this ⊢ <;> omega
theorem varsL_len : ∀ (l : List Ty) (out : List Int), (varsL l out).length ≤ out.length + sizes l
  | [], out => by simp [varsL, sizes]
  | t :: l, out => by
    simp only [varsL, sizes]
    have h1 := varsF_len t out
    have h2 := varsL_len l (varsF t out)
    omega
end
noncomputable def b31_0 : Code := loopOf Try.f31 0
theorem body31 : Try.f31.body = some (.seq (codeAt Try.f31 [0]) (.seq (codeAt Try.f31 [1, 0]) (.seq (.seq (codeAt Try.f31 [1, 1, 0, 0]) (.block 0 (.loop b31_0))) (codeAt Try.f31 [1, 1, 1])))) := rfl
def ints (L : List Int) : List AV := L.map (.int .i64)
theorem ints_len (L : List Int) : (ints L).length = L.length := List.length_map ..
theorem ints_sizes : ∀ L : List Int, sizesAre 1 (ints L) = true
  | [] => rfl
  | n :: L => by
    have := ints_sizes L
    unfold ints at this ⊢
    simp [sizesAre, AV.cells, beq_dec, this]
/-- The owner is what it was, or new. -/
def NewO (h : H) (o o' : Own) : Prop := o' = o ∨ ∃ id, o' = .ch id ∧ h.nx ≤ id
def Vars31 (E : Env) (d : Nat) : Prop := ∀ (t : Ty) (o : Own) (L : List Int) (h : H), dep t ≤ d → fit t → RowE 3 1 h o (ints L) → L.length + size t ≤ 1000000 →
  ∃ o' h', evL E 31 [t.av, .sl o (ints L)] h = some (.sl o' (ints (varsF t L)), h') ∧ RowE 3 1 h' o' (ints (varsF t L)) ∧ NewO h o o' ∧ h.nx ≤ h'.nx ∧ ∀ j, j < h.nx → o ≠ .ch j → h'.t.get j = h.t.get j
theorem loop31 {E : Env} (hty : E.ty = env.ty) (hpl : E.plan = env.plan) {a : List Nat} {n : Int} {ks : List Ty} {d : Nat} (hl : ks.length ≤ 9223372036854775807) (hf : fits ks) (hd : deps ks ≤ d) (hc : Vars31 E d) {b : Nat} :
    ∀ (l : List Ty) (i : Nat) (o : Own) (L : List Int) {tm : Tm} {h : H} {x : Option (Ex × Tm × H)}, cdL E 31 36 (.loop b31_0) tm h = x → l = ks.drop i → i ≤ ks.length → RowE 3 1 h o (ints L) → L.length + sizes l ≤ 1000000 →
    tm.get 1 = some (.sl o (ints L)) → tm.get 2 = some (.ptr (some (b, 0))) → tm.get 5 = some (.int .i64 ↑i) → h.t.get b = some (.cells [.str a, .int .i64 n, .sl .no (Ty.avs ks)]) → b < h.nx →
    ∃ tm' h' o', x = some (.exit 0, tm', h') ∧ tm'.get 1 = some (.sl o' (ints (varsL l L))) ∧ RowE 3 1 h' o' (ints (varsL l L)) ∧ NewO h o o' ∧ h.nx ≤ h'.nx ∧ ∀ j, j < h.nx → o ≠ .ch j → h'.t.get j = h.t.get j
  | [], i, o, L, tm, h, x, hx, hd, hi, hr, hlen, h1, h2, h5, hz, hbn => by
    have hlen := dnil hd hi
    have hl2 : (Ty.avs ks).length = i := by rw [avs_len]; exact hlen
    obtain ⟨R, hR, hx⟩ := loop_step hx
    simp [b31_0, loopOf, Try.f31, loops, cdL_seq, cdL_region, cdL_drawn, cdL_cond, cdL_block, cdL_skip, cdL_label, cdL_exit, cdL_ret, endL, evSeq, evOne, evAct, evOp, opKind, evPure, evRead, evNew, evWrite, evSlice, natOf, optVal, readAt, AV.cells, wantedA, putTm, val, allVals, evBin, evInt, evStr, evAppend, denseFrom, sizesAre, onesIn, evPlan, recheck, AV.beq_refl, H.new, H.put, fillF, fillAt, allOne, AV.one, setArgs, evRes, resOf, ofVal, ofVal0, blt_dec, ble_dec, beq_dec, T.get_set_ite, T.get_e, isShift, ikBeq, ty_0, ty_1, ty_2, ty_3, ty_4, ty_5, ty_6, ty_7, ty_8, ty_9, ty_10, ty_11, ty_12, ty_13, ty_14, ty_15, ty_16, ty_17, ty_18, ty_19, ty_20, ty_21, ty_22, ty_23, ty_24, ty_25, ty_26, ty_27, ty_28, ty_29, ty_30, ty_31, ty_32, ty_33, ty_34, ty_35, ty_36, ty_37, ty_38, ty_39, ty_40, ty_41, ty_42, ty_43, ty_44, ty_45, ty_46, ty_47, ty_48, ty_49, ty_50, ty_51, ty_52, ty_53, ty_54, ty_55, ty_56, ty_57, ty_58, ty_59, ty_60, ty_61, ty_62, ty_63, ty_64, ty_65, ty_66, ty_67, ty_68, ty_69, ty_70, ty_71, ty_72, ty_73, ty_74, ty_75, ty_76, ty_77, ty_78, pl_3_7, pl_3_12, pl_3_14, pl_3_15, pl_3_17, pl_4_12, pl_5_7, pl_6_16, pl_6_21, pl_7_3, pl_7_7, pl_8_5, pl_12_3, pl_13_1, pl_13_11, pl_15_6, pl_16_8, pl_17_4, pl_19_5, pl_19_12, pl_24_5, pl_24_12, pl_26_1, pl_27_2, pl_28_3, pl_30_3, pl_33_2, lp, hty, hpl, h1, h2, h5, hz, hl2, ltI_f] at hx
    exact ⟨_, h, o, by rw [← hx], by simp [T.get_set_ite, h1, varsL], hr, .inl rfl, Nat.le_refl _, fun _ _ _ => rfl⟩
  | t :: l, i, o, L, tm, h, x, hx, hdr, hi, hr, hlen, h1, h2, h5, hz, hbn => by
    obtain ⟨hlt, hct, hd'⟩ := dcons hdr
    have hl2 := avs_len ks
    have hat := avs_get hct
    have htm := List.mem_of_getElem? hct
    obtain ⟨R, hR, hx⟩ := loop_step hx
    have hlt' := ltI_t hlt
    have hw := wr_succ (i := i) (by omega)
    simp only [sizes] at hlen
    obtain ⟨o1, h1', e1, r1, w1, n1, f1⟩ := hc t o L h (Nat.le_trans (dep_mem htm) hd) (fits_mem.1 hf t htm) hr (by omega)
    have hbo : o ≠ .ch b := by
      rintro rfl
      rcases hr with ⟨e, _⟩ | ⟨id, e, hg, _⟩
      · cases e
      · cases e; rw [hz] at hg; cases hg
    have hz' : h1'.t.get b = some (.cells [.str a, .int .i64 n, .sl .no (Ty.avs ks)]) := by rw [f1 b hbn hbo]; exact hz
    obtain ⟨a0, a1, a2, ha⟩ := av_agg t
    rw [ha] at hat e1
    simp [b31_0, loopOf, Try.f31, loops, cdL_seq, cdL_region, cdL_drawn, cdL_cond, cdL_block, cdL_skip, cdL_label, cdL_exit, cdL_ret, endL, evSeq, evOne, evAct, evOp, opKind, evPure, evRead, evNew, evWrite, evSlice, natOf, optVal, readAt, AV.cells, wantedA, putTm, val, allVals, evBin, evInt, evStr, evAppend, denseFrom, sizesAre, onesIn, evPlan, recheck, AV.beq_refl, H.new, H.put, fillF, fillAt, allOne, AV.one, setArgs, evRes, resOf, ofVal, ofVal0, blt_dec, ble_dec, beq_dec, T.get_set_ite, T.get_e, isShift, ikBeq, ty_0, ty_1, ty_2, ty_3, ty_4, ty_5, ty_6, ty_7, ty_8, ty_9, ty_10, ty_11, ty_12, ty_13, ty_14, ty_15, ty_16, ty_17, ty_18, ty_19, ty_20, ty_21, ty_22, ty_23, ty_24, ty_25, ty_26, ty_27, ty_28, ty_29, ty_30, ty_31, ty_32, ty_33, ty_34, ty_35, ty_36, ty_37, ty_38, ty_39, ty_40, ty_41, ty_42, ty_43, ty_44, ty_45, ty_46, ty_47, ty_48, ty_49, ty_50, ty_51, ty_52, ty_53, ty_54, ty_55, ty_56, ty_57, ty_58, ty_59, ty_60, ty_61, ty_62, ty_63, ty_64, ty_65, ty_66, ty_67, ty_68, ty_69, ty_70, ty_71, ty_72, ty_73, ty_74, ty_75, ty_76, ty_77, ty_78, pl_3_7, pl_3_12, pl_3_14, pl_3_15, pl_3_17, pl_4_12, pl_5_7, pl_6_16, pl_6_21, pl_7_3, pl_7_7, pl_8_5, pl_12_3, pl_13_1, pl_13_11, pl_15_6, pl_16_8, pl_17_4, pl_19_5, pl_19_12, pl_24_5, pl_24_12, pl_26_1, pl_27_2, pl_28_3, pl_30_3, pl_33_2, lp, hty, hpl, h1, h2, h5, hz, hl2, hlt', hat, hw, e1] at hx
    rw [hR] at hx
    have hvl := varsF_len t L
    obtain ⟨tm', h2', o2, g0, g1, g2, gw, g3, g4⟩ := loop31 hty hpl hl hf hd hc l (i + 1) o1 (varsF t L) hx hd' hlt r1 (by omega) (by simp [T.get_set_ite]) (by simp [T.get_set_ite, h2]) (by simp [T.get_set_ite]) hz' (by omega)
    refine ⟨tm', h2', o2, g0, g1, g2, ?_, by omega, fun j hj ho => ?_⟩
    · rcases gw with rfl | ⟨id, rfl, hid⟩
      · exact w1
      · exact .inr ⟨id, rfl, by omega⟩
    · rw [g4 j (by omega) ?_, f1 j hj ho]
      rintro rfl
      rcases w1 with e | ⟨id, e, hid⟩
      · exact ho e.symm
      · cases e; omega
theorem vars_run {E : Env} (hty : E.ty = env.ty) (hpl : E.plan = env.plan) (hp : E.prim 31 = none) (hfn : E.fns 31 = some Try.f31) (h22 : E.prim 22 = some p22) : ∀ d, Vars31 E d
  | 0 => fun t o L h hd => by have := dep_pos t; omega
  | d + 1 => fun t o L h hd hf hr hlen => by
    have hc := vars_run hty hpl hp hfn h22 d
    obtain ⟨a, n, ks⟩ := t
    simp only [dep] at hd
    simp only [fit] at hf
    simp only [size] at hlen
    have hhas : ∀ h, evL E 22 [.sl o (ints L), .int .i64 n] h = some (.bool (hasI L n), h) := fun h => c22 h22 o L n (by omega) h
    have hil := ints_len L
    have his := ints_sizes L
    have hby : (L.length + 1) * 8 ≤ 140737488355328 := by omega
    have hv : natsBeq a varS = natsBeq a [118, 97, 114] := rfl
    have eF : varsF (.mk a n ks) L = varsL ks (bif natsBeq a [118, 97, 114] && !hasI L n then L ++ [n] else L) := by rw [varsF, hv]
    rw [evL_fn E hp hfn body31 _ _ rfl, eF]
    -- the rest, from the loop on
    have rest : ∀ (o1 : Own) (L1 : List Int) (tm1 : Tm) (h1 : H) (x : Option (Ex × Tm × H)), cdL E 31 36 (.loop b31_0) tm1 h1 = x → RowE 3 1 h1 o1 (ints L1) → L1.length + sizes ks ≤ 1000000 → tm1.get 1 = some (.sl o1 (ints L1)) → tm1.get 2 = some (.ptr (some (h.nx, 0))) → tm1.get 5 = some (.int .i64 0) →
        h1.t.get h.nx = some (.cells [.str a, .int .i64 n, .sl .no (Ty.avs ks)]) → h.nx < h1.nx → NewO h o o1 → (∀ j, j < h.nx → o ≠ .ch j → h1.t.get j = h.t.get j) →
        ∃ tm' h' o', x = some (.exit 0, tm', h') ∧ tm'.get 1 = some (.sl o' (ints (varsL ks L1))) ∧ RowE 3 1 h' o' (ints (varsL ks L1)) ∧ NewO h o o' ∧ h.nx ≤ h'.nx ∧ ∀ j, j < h.nx → o ≠ .ch j → h'.t.get j = h.t.get j := by
      intro o1 L1 tm1 h1 x hx r1 l1 g1 g2 g5 gz gn gw gf
      obtain ⟨tm', h', o', e1, e2, e3, e4, e5, e6⟩ := loop31 hty hpl (a := a) (n := n) (ks := ks) (d := d) hf.1 hf.2.2 (by omega) hc (b := h.nx) ks 0 o1 L1 hx rfl (Nat.zero_le _) r1 l1 g1 g2 (by simpa using g5) gz gn
      refine ⟨tm', h', o', e1, e2, e3, ?_, by omega, fun j hj ho => ?_⟩
      · rcases e4 with rfl | ⟨id, rfl, hid⟩
        · exact gw
        · exact .inr ⟨id, rfl, by omega⟩
      · rw [e6 j (by omega) ?_, gf j hj ho]
        rintro rfl
        rcases gw with e | ⟨id, e, hid⟩
        · exact ho e.symm
        · cases e; omega
    simp only [codeAt, sub, Try.f31]
    cases h1 : natsBeq a [118, 97, 114] with
    | false =>
      simp [cdL_seq, cdL_region, cdL_drawn, cdL_cond, cdL_block, cdL_skip, cdL_label, cdL_exit, cdL_ret, endL, evSeq, evOne, evAct, evOp, opKind, evPure, evRead, evNew, evWrite, evSlice, natOf, optVal, readAt, AV.cells, wantedA, putTm, val, allVals, evBin, evInt, evStr, evAppend, denseFrom, sizesAre, onesIn, evPlan, recheck, AV.beq_refl, H.new, H.put, fillF, fillAt, allOne, AV.one, setArgs, evRes, resOf, ofVal, ofVal0, blt_dec, ble_dec, beq_dec, T.get_set_ite, T.get_e, isShift, ikBeq, ty_0, ty_1, ty_2, ty_3, ty_4, ty_5, ty_6, ty_7, ty_8, ty_9, ty_10, ty_11, ty_12, ty_13, ty_14, ty_15, ty_16, ty_17, ty_18, ty_19, ty_20, ty_21, ty_22, ty_23, ty_24, ty_25, ty_26, ty_27, ty_28, ty_29, ty_30, ty_31, ty_32, ty_33, ty_34, ty_35, ty_36, ty_37, ty_38, ty_39, ty_40, ty_41, ty_42, ty_43, ty_44, ty_45, ty_46, ty_47, ty_48, ty_49, ty_50, ty_51, ty_52, ty_53, ty_54, ty_55, ty_56, ty_57, ty_58, ty_59, ty_60, ty_61, ty_62, ty_63, ty_64, ty_65, ty_66, ty_67, ty_68, ty_69, ty_70, ty_71, ty_72, ty_73, ty_74, ty_75, ty_76, ty_77, ty_78, pl_3_7, pl_3_12, pl_3_14, pl_3_15, pl_3_17, pl_4_12, pl_5_7, pl_6_16, pl_6_21, pl_7_3, pl_7_7, pl_8_5, pl_12_3, pl_13_1, pl_13_11, pl_15_6, pl_16_8, pl_17_4, pl_19_5, pl_19_12, pl_24_5, pl_24_12, pl_26_1, pl_27_2, pl_28_3, pl_30_3, pl_33_2, hty, hpl, Ty.av, hhas, h1, bytesOf]
      generalize hx : cdL E 31 36 (.loop b31_0) _ _ = x
      obtain ⟨tm', h', o', rfl, q1, q2, q3, q4, q5⟩ := rest o L _ _ x hx (by
        rcases hr with e | ⟨id, e, hg, hi⟩
        · exact .inl e
        · exact .inr ⟨id, e, by simp [T.get_set_ite]; rw [if_neg (by omega)]; exact hg, by simp; omega⟩) (by omega) (by simp [T.get_set_ite]) (by simp [T.get_set_ite]) (by simp [T.get_set_ite]) (by simp [T.get_set_ite]) (by simp) (.inl rfl) (fun j hj ho => by simp [T.get_set_ite]; omega)
      simp [cdL_seq, cdL_region, cdL_drawn, cdL_cond, cdL_block, cdL_skip, cdL_label, cdL_exit, cdL_ret, endL, evSeq, evOne, evAct, evOp, opKind, evPure, evRead, evNew, evWrite, evSlice, natOf, optVal, readAt, AV.cells, wantedA, putTm, val, allVals, evBin, evInt, evStr, evAppend, denseFrom, sizesAre, onesIn, evPlan, recheck, AV.beq_refl, H.new, H.put, fillF, fillAt, allOne, AV.one, setArgs, evRes, resOf, ofVal, ofVal0, blt_dec, ble_dec, beq_dec, T.get_set_ite, T.get_e, isShift, ikBeq, ty_0, ty_1, ty_2, ty_3, ty_4, ty_5, ty_6, ty_7, ty_8, ty_9, ty_10, ty_11, ty_12, ty_13, ty_14, ty_15, ty_16, ty_17, ty_18, ty_19, ty_20, ty_21, ty_22, ty_23, ty_24, ty_25, ty_26, ty_27, ty_28, ty_29, ty_30, ty_31, ty_32, ty_33, ty_34, ty_35, ty_36, ty_37, ty_38, ty_39, ty_40, ty_41, ty_42, ty_43, ty_44, ty_45, ty_46, ty_47, ty_48, ty_49, ty_50, ty_51, ty_52, ty_53, ty_54, ty_55, ty_56, ty_57, ty_58, ty_59, ty_60, ty_61, ty_62, ty_63, ty_64, ty_65, ty_66, ty_67, ty_68, ty_69, ty_70, ty_71, ty_72, ty_73, ty_74, ty_75, ty_76, ty_77, ty_78, pl_3_7, pl_3_12, pl_3_14, pl_3_15, pl_3_17, pl_4_12, pl_5_7, pl_6_16, pl_6_21, pl_7_3, pl_7_7, pl_8_5, pl_12_3, pl_13_1, pl_13_11, pl_15_6, pl_16_8, pl_17_4, pl_19_5, pl_19_12, pl_24_5, pl_24_12, pl_26_1, pl_27_2, pl_28_3, pl_30_3, pl_33_2, hty, hpl, q1]
      exact ⟨o', h', ⟨rfl, rfl⟩, q2, q3, q4, q5⟩
    | true =>
      cases h2 : hasI L n with
      | true =>
        simp [cdL_seq, cdL_region, cdL_drawn, cdL_cond, cdL_block, cdL_skip, cdL_label, cdL_exit, cdL_ret, endL, evSeq, evOne, evAct, evOp, opKind, evPure, evRead, evNew, evWrite, evSlice, natOf, optVal, readAt, AV.cells, wantedA, putTm, val, allVals, evBin, evInt, evStr, evAppend, denseFrom, sizesAre, onesIn, evPlan, recheck, AV.beq_refl, H.new, H.put, fillF, fillAt, allOne, AV.one, setArgs, evRes, resOf, ofVal, ofVal0, blt_dec, ble_dec, beq_dec, T.get_set_ite, T.get_e, isShift, ikBeq, ty_0, ty_1, ty_2, ty_3, ty_4, ty_5, ty_6, ty_7, ty_8, ty_9, ty_10, ty_11, ty_12, ty_13, ty_14, ty_15, ty_16, ty_17, ty_18, ty_19, ty_20, ty_21, ty_22, ty_23, ty_24, ty_25, ty_26, ty_27, ty_28, ty_29, ty_30, ty_31, ty_32, ty_33, ty_34, ty_35, ty_36, ty_37, ty_38, ty_39, ty_40, ty_41, ty_42, ty_43, ty_44, ty_45, ty_46, ty_47, ty_48, ty_49, ty_50, ty_51, ty_52, ty_53, ty_54, ty_55, ty_56, ty_57, ty_58, ty_59, ty_60, ty_61, ty_62, ty_63, ty_64, ty_65, ty_66, ty_67, ty_68, ty_69, ty_70, ty_71, ty_72, ty_73, ty_74, ty_75, ty_76, ty_77, ty_78, pl_3_7, pl_3_12, pl_3_14, pl_3_15, pl_3_17, pl_4_12, pl_5_7, pl_6_16, pl_6_21, pl_7_3, pl_7_7, pl_8_5, pl_12_3, pl_13_1, pl_13_11, pl_15_6, pl_16_8, pl_17_4, pl_19_5, pl_19_12, pl_24_5, pl_24_12, pl_26_1, pl_27_2, pl_28_3, pl_30_3, pl_33_2, hty, hpl, Ty.av, hhas, h1, h2, bytesOf]
        generalize hx : cdL E 31 36 (.loop b31_0) _ _ = x
        obtain ⟨tm', h', o', rfl, q1, q2, q3, q4, q5⟩ := rest o L _ _ x hx (by
          rcases hr with e | ⟨id, e, hg, hi⟩
          · exact .inl e
          · exact .inr ⟨id, e, by simp [T.get_set_ite]; rw [if_neg (by omega)]; exact hg, by simp; omega⟩) (by omega) (by simp [T.get_set_ite]) (by simp [T.get_set_ite]) (by simp [T.get_set_ite]) (by simp [T.get_set_ite]) (by simp) (.inl rfl) (fun j hj ho => by simp [T.get_set_ite]; omega)
        simp [cdL_seq, cdL_region, cdL_drawn, cdL_cond, cdL_block, cdL_skip, cdL_label, cdL_exit, cdL_ret, endL, evSeq, evOne, evAct, evOp, opKind, evPure, evRead, evNew, evWrite, evSlice, natOf, optVal, readAt, AV.cells, wantedA, putTm, val, allVals, evBin, evInt, evStr, evAppend, denseFrom, sizesAre, onesIn, evPlan, recheck, AV.beq_refl, H.new, H.put, fillF, fillAt, allOne, AV.one, setArgs, evRes, resOf, ofVal, ofVal0, blt_dec, ble_dec, beq_dec, T.get_set_ite, T.get_e, isShift, ikBeq, ty_0, ty_1, ty_2, ty_3, ty_4, ty_5, ty_6, ty_7, ty_8, ty_9, ty_10, ty_11, ty_12, ty_13, ty_14, ty_15, ty_16, ty_17, ty_18, ty_19, ty_20, ty_21, ty_22, ty_23, ty_24, ty_25, ty_26, ty_27, ty_28, ty_29, ty_30, ty_31, ty_32, ty_33, ty_34, ty_35, ty_36, ty_37, ty_38, ty_39, ty_40, ty_41, ty_42, ty_43, ty_44, ty_45, ty_46, ty_47, ty_48, ty_49, ty_50, ty_51, ty_52, ty_53, ty_54, ty_55, ty_56, ty_57, ty_58, ty_59, ty_60, ty_61, ty_62, ty_63, ty_64, ty_65, ty_66, ty_67, ty_68, ty_69, ty_70, ty_71, ty_72, ty_73, ty_74, ty_75, ty_76, ty_77, ty_78, pl_3_7, pl_3_12, pl_3_14, pl_3_15, pl_3_17, pl_4_12, pl_5_7, pl_6_16, pl_6_21, pl_7_3, pl_7_7, pl_8_5, pl_12_3, pl_13_1, pl_13_11, pl_15_6, pl_16_8, pl_17_4, pl_19_5, pl_19_12, pl_24_5, pl_24_12, pl_26_1, pl_27_2, pl_28_3, pl_30_3, pl_33_2, hty, hpl, q1]
        exact ⟨o', h', ⟨rfl, rfl⟩, q2, q3, q4, q5⟩
      | false =>
        have eap : ints L ++ [.int .i64 n] = ints (L ++ [n]) := by simp [ints]
        have hlen1 : (ints (L ++ [n])).length = L.length + 1 := by simp [ints]
        rcases hr with ⟨rfl, e0⟩ | ⟨id, rfl, hg, hi⟩
        · have eL : L = [] := by simpa [ints] using e0
          subst eL
          have hh2 : ∀ h, evL E 22 [.sl .full [], .int .i64 n] h = some (.bool false, h) := fun h => by rw [← h2]; exact hhas h
          simp [cdL_seq, cdL_region, cdL_drawn, cdL_cond, cdL_block, cdL_skip, cdL_label, cdL_exit, cdL_ret, endL, evSeq, evOne, evAct, evOp, opKind, evPure, evRead, evNew, evWrite, evSlice, natOf, optVal, readAt, AV.cells, wantedA, putTm, val, allVals, evBin, evInt, evStr, evAppend, denseFrom, sizesAre, onesIn, evPlan, recheck, AV.beq_refl, H.new, H.put, fillF, fillAt, allOne, AV.one, setArgs, evRes, resOf, ofVal, ofVal0, blt_dec, ble_dec, beq_dec, T.get_set_ite, T.get_e, isShift, ikBeq, ty_0, ty_1, ty_2, ty_3, ty_4, ty_5, ty_6, ty_7, ty_8, ty_9, ty_10, ty_11, ty_12, ty_13, ty_14, ty_15, ty_16, ty_17, ty_18, ty_19, ty_20, ty_21, ty_22, ty_23, ty_24, ty_25, ty_26, ty_27, ty_28, ty_29, ty_30, ty_31, ty_32, ty_33, ty_34, ty_35, ty_36, ty_37, ty_38, ty_39, ty_40, ty_41, ty_42, ty_43, ty_44, ty_45, ty_46, ty_47, ty_48, ty_49, ty_50, ty_51, ty_52, ty_53, ty_54, ty_55, ty_56, ty_57, ty_58, ty_59, ty_60, ty_61, ty_62, ty_63, ty_64, ty_65, ty_66, ty_67, ty_68, ty_69, ty_70, ty_71, ty_72, ty_73, ty_74, ty_75, ty_76, ty_77, ty_78, pl_3_7, pl_3_12, pl_3_14, pl_3_15, pl_3_17, pl_4_12, pl_5_7, pl_6_16, pl_6_21, pl_7_3, pl_7_7, pl_8_5, pl_12_3, pl_13_1, pl_13_11, pl_15_6, pl_16_8, pl_17_4, pl_19_5, pl_19_12, pl_24_5, pl_24_12, pl_26_1, pl_27_2, pl_28_3, pl_30_3, pl_33_2, hty, hpl, Ty.av, hh2, h1, h2, bytesOf, ints]
          generalize hx : cdL E 31 36 (.loop b31_0) _ _ = x
          obtain ⟨tm', h', o', rfl, q1, q2, q3, q4, q5⟩ := rest (.ch (h.nx + 1)) [n] _ _ x hx (.inr ⟨_, rfl, by simp [T.get_set_ite, ints], by simp⟩) (by simp; omega) (by simp [T.get_set_ite, ints]) (by simp [T.get_set_ite]) (by simp [T.get_set_ite]) (by simp [T.get_set_ite]) (by simp; omega) (.inr ⟨_, rfl, by simp⟩) (fun j hj ho => by simp only [T.get_set_ite]; rw [if_neg (by omega), if_neg (by omega)])
          refine ⟨o', h', ?_, q2, q3, q4, fun j hj => q5 j hj (by simp)⟩
          simp [cdL_seq, cdL_region, cdL_drawn, cdL_cond, cdL_block, cdL_skip, cdL_label, cdL_exit, cdL_ret, endL, evSeq, evOne, evAct, evOp, opKind, evPure, evRead, evNew, evWrite, evSlice, natOf, optVal, readAt, AV.cells, wantedA, putTm, val, allVals, evBin, evInt, evStr, evAppend, denseFrom, sizesAre, onesIn, evPlan, recheck, AV.beq_refl, H.new, H.put, fillF, fillAt, allOne, AV.one, setArgs, evRes, resOf, ofVal, ofVal0, blt_dec, ble_dec, beq_dec, T.get_set_ite, T.get_e, isShift, ikBeq, ty_0, ty_1, ty_2, ty_3, ty_4, ty_5, ty_6, ty_7, ty_8, ty_9, ty_10, ty_11, ty_12, ty_13, ty_14, ty_15, ty_16, ty_17, ty_18, ty_19, ty_20, ty_21, ty_22, ty_23, ty_24, ty_25, ty_26, ty_27, ty_28, ty_29, ty_30, ty_31, ty_32, ty_33, ty_34, ty_35, ty_36, ty_37, ty_38, ty_39, ty_40, ty_41, ty_42, ty_43, ty_44, ty_45, ty_46, ty_47, ty_48, ty_49, ty_50, ty_51, ty_52, ty_53, ty_54, ty_55, ty_56, ty_57, ty_58, ty_59, ty_60, ty_61, ty_62, ty_63, ty_64, ty_65, ty_66, ty_67, ty_68, ty_69, ty_70, ty_71, ty_72, ty_73, ty_74, ty_75, ty_76, ty_77, ty_78, pl_3_7, pl_3_12, pl_3_14, pl_3_15, pl_3_17, pl_4_12, pl_5_7, pl_6_16, pl_6_21, pl_7_3, pl_7_7, pl_8_5, pl_12_3, pl_13_1, pl_13_11, pl_15_6, pl_16_8, pl_17_4, pl_19_5, pl_19_12, pl_24_5, pl_24_12, pl_26_1, pl_27_2, pl_28_3, pl_30_3, pl_33_2, hty, hpl, q1, ints]
        · have hne : id ≠ h.nx := by omega
          have hne2 : h.nx ≠ id := by omega
          rw [hil] at hg
          simp [cdL_seq, cdL_region, cdL_drawn, cdL_cond, cdL_block, cdL_skip, cdL_label, cdL_exit, cdL_ret, endL, evSeq, evOne, evAct, evOp, opKind, evPure, evRead, evNew, evWrite, evSlice, natOf, optVal, readAt, AV.cells, wantedA, putTm, val, allVals, evBin, evInt, evStr, evAppend, denseFrom, sizesAre, onesIn, evPlan, recheck, AV.beq_refl, H.new, H.put, fillF, fillAt, allOne, AV.one, setArgs, evRes, resOf, ofVal, ofVal0, blt_dec, ble_dec, beq_dec, T.get_set_ite, T.get_e, isShift, ikBeq, ty_0, ty_1, ty_2, ty_3, ty_4, ty_5, ty_6, ty_7, ty_8, ty_9, ty_10, ty_11, ty_12, ty_13, ty_14, ty_15, ty_16, ty_17, ty_18, ty_19, ty_20, ty_21, ty_22, ty_23, ty_24, ty_25, ty_26, ty_27, ty_28, ty_29, ty_30, ty_31, ty_32, ty_33, ty_34, ty_35, ty_36, ty_37, ty_38, ty_39, ty_40, ty_41, ty_42, ty_43, ty_44, ty_45, ty_46, ty_47, ty_48, ty_49, ty_50, ty_51, ty_52, ty_53, ty_54, ty_55, ty_56, ty_57, ty_58, ty_59, ty_60, ty_61, ty_62, ty_63, ty_64, ty_65, ty_66, ty_67, ty_68, ty_69, ty_70, ty_71, ty_72, ty_73, ty_74, ty_75, ty_76, ty_77, ty_78, pl_3_7, pl_3_12, pl_3_14, pl_3_15, pl_3_17, pl_4_12, pl_5_7, pl_6_16, pl_6_21, pl_7_3, pl_7_7, pl_8_5, pl_12_3, pl_13_1, pl_13_11, pl_15_6, pl_16_8, pl_17_4, pl_19_5, pl_19_12, pl_24_5, pl_24_12, pl_26_1, pl_27_2, pl_28_3, pl_30_3, pl_33_2, hty, hpl, Ty.av, hhas, h1, h2, bytesOf, hg, hne, hne2, hil, his, hby]
          generalize hx : cdL E 31 36 (.loop b31_0) _ _ = x
          obtain ⟨tm', h', o', rfl, q1, q2, q3, q4, q5⟩ := rest (.ch id) (L ++ [n]) _ _ x hx (.inr ⟨_, rfl, by simp [T.get_set_ite, hlen1], by simp; omega⟩) (by simp; omega) (by simp [T.get_set_ite, eap]) (by simp [T.get_set_ite]) (by simp [T.get_set_ite]) (by simp [T.get_set_ite, hne2]) (by simp) (.inl rfl) (fun j hj ho => by
            have : j ≠ id := fun e => ho (by rw [e])
            simp [T.get_set_ite, this]; omega)
          refine ⟨o', h', ?_, q2, q3, q4, fun j hj hne => q5 j hj (by simpa using hne)⟩
          simp [cdL_seq, cdL_region, cdL_drawn, cdL_cond, cdL_block, cdL_skip, cdL_label, cdL_exit, cdL_ret, endL, evSeq, evOne, evAct, evOp, opKind, evPure, evRead, evNew, evWrite, evSlice, natOf, optVal, readAt, AV.cells, wantedA, putTm, val, allVals, evBin, evInt, evStr, evAppend, denseFrom, sizesAre, onesIn, evPlan, recheck, AV.beq_refl, H.new, H.put, fillF, fillAt, allOne, AV.one, setArgs, evRes, resOf, ofVal, ofVal0, blt_dec, ble_dec, beq_dec, T.get_set_ite, T.get_e, isShift, ikBeq, ty_0, ty_1, ty_2, ty_3, ty_4, ty_5, ty_6, ty_7, ty_8, ty_9, ty_10, ty_11, ty_12, ty_13, ty_14, ty_15, ty_16, ty_17, ty_18, ty_19, ty_20, ty_21, ty_22, ty_23, ty_24, ty_25, ty_26, ty_27, ty_28, ty_29, ty_30, ty_31, ty_32, ty_33, ty_34, ty_35, ty_36, ty_37, ty_38, ty_39, ty_40, ty_41, ty_42, ty_43, ty_44, ty_45, ty_46, ty_47, ty_48, ty_49, ty_50, ty_51, ty_52, ty_53, ty_54, ty_55, ty_56, ty_57, ty_58, ty_59, ty_60, ty_61, ty_62, ty_63, ty_64, ty_65, ty_66, ty_67, ty_68, ty_69, ty_70, ty_71, ty_72, ty_73, ty_74, ty_75, ty_76, ty_77, ty_78, pl_3_7, pl_3_12, pl_3_14, pl_3_15, pl_3_17, pl_4_12, pl_5_7, pl_6_16, pl_6_21, pl_7_3, pl_7_7, pl_8_5, pl_12_3, pl_13_1, pl_13_11, pl_15_6, pl_16_8, pl_17_4, pl_19_5, pl_19_12, pl_24_5, pl_24_12, pl_26_1, pl_27_2, pl_28_3, pl_30_3, pl_33_2, hty, hpl, q1]
/-- Vars. -/
def qv (t : Ty) : Prop := fit t ∧ size t ≤ 1000000
noncomputable abbrev p23 := primVal (ofRel (Rel1 qv (fun t => varsF t [])))
theorem own_full {n : Nat} {o : Own} : o.wk n .no := .inl rfl
theorem p23_ok : PrimOk Try.prog 23 p23 := prim1_ok envA_ok (fn := Try.f23) (by kernel_rfl) rfl (by kernel_rfl) fun t hq => by
  have hv := fun h => vars_run (E := envA) rfl rfl (by kernel_rfl) (by kernel_rfl) (by kernel_rfl) (dep t) t .full [] h (Nat.le_refl _) hq.1 (.inl ⟨rfl, rfl⟩) (by simpa using hq.2)
  have hty : envA.ty = env.ty := rfl
  obtain ⟨o', h', e, _⟩ := hv ⟨T.e.set 0 (.cells t.av.cells), 1⟩
  obtain ⟨a, b, c, ea⟩ := av_agg t
  unfold bodyL
  rw [show (Enc.enc t : AV) = t.av from rfl]
  rw [ea] at e ⊢
  simp only [AV.cells] at e
  simp only [Try.f23]
  simp [cdL_seq, cdL_region, cdL_drawn, cdL_cond, cdL_block, cdL_skip, cdL_label, cdL_exit, cdL_ret, endL, evSeq, evOne, evAct, evOp, opKind, evPure, evRead, evNew, evWrite, evSlice, natOf, optVal, readAt, AV.cells, wantedA, putTm, val, allVals, evBin, evInt, evStr, evAppend, denseFrom, sizesAre, onesIn, evPlan, recheck, AV.beq_refl, H.new, H.put, fillF, fillAt, allOne, AV.one, setArgs, evRes, resOf, ofVal, ofVal0, blt_dec, ble_dec, beq_dec, T.get_set_ite, T.get_e, isShift, ikBeq, ty_0, ty_1, ty_2, ty_3, ty_4, ty_5, ty_6, ty_7, ty_8, ty_9, ty_10, ty_11, ty_12, ty_13, ty_14, ty_15, ty_16, ty_17, ty_18, ty_19, ty_20, ty_21, ty_22, ty_23, ty_24, ty_25, ty_26, ty_27, ty_28, ty_29, ty_30, ty_31, ty_32, ty_33, ty_34, ty_35, ty_36, ty_37, ty_38, ty_39, ty_40, ty_41, ty_42, ty_43, ty_44, ty_45, ty_46, ty_47, ty_48, ty_49, ty_50, ty_51, ty_52, ty_53, ty_54, ty_55, ty_56, ty_57, ty_58, ty_59, ty_60, ty_61, ty_62, ty_63, ty_64, ty_65, ty_66, ty_67, ty_68, ty_69, ty_70, ty_71, ty_72, ty_73, ty_74, ty_75, ty_76, ty_77, ty_78, pl_3_7, pl_3_12, pl_3_14, pl_3_15, pl_3_17, pl_4_12, pl_5_7, pl_6_16, pl_6_21, pl_7_3, pl_7_7, pl_8_5, pl_12_3, pl_13_1, pl_13_11, pl_15_6, pl_16_8, pl_17_4, pl_19_5, pl_19_12, pl_24_5, pl_24_12, pl_26_1, pl_27_2, pl_28_3, pl_30_3, pl_33_2, hty, ints] at e ⊢
  simp [cdL_seq, cdL_region, cdL_drawn, cdL_cond, cdL_block, cdL_skip, cdL_label, cdL_exit, cdL_ret, endL, evSeq, evOne, evAct, evOp, opKind, evPure, evRead, evNew, evWrite, evSlice, natOf, optVal, readAt, AV.cells, wantedA, putTm, val, allVals, evBin, evInt, evStr, evAppend, denseFrom, sizesAre, onesIn, evPlan, recheck, AV.beq_refl, H.new, H.put, fillF, fillAt, allOne, AV.one, setArgs, evRes, resOf, ofVal, ofVal0, blt_dec, ble_dec, beq_dec, T.get_set_ite, T.get_e, isShift, ikBeq, ty_0, ty_1, ty_2, ty_3, ty_4, ty_5, ty_6, ty_7, ty_8, ty_9, ty_10, ty_11, ty_12, ty_13, ty_14, ty_15, ty_16, ty_17, ty_18, ty_19, ty_20, ty_21, ty_22, ty_23, ty_24, ty_25, ty_26, ty_27, ty_28, ty_29, ty_30, ty_31, ty_32, ty_33, ty_34, ty_35, ty_36, ty_37, ty_38, ty_39, ty_40, ty_41, ty_42, ty_43, ty_44, ty_45, ty_46, ty_47, ty_48, ty_49, ty_50, ty_51, ty_52, ty_53, ty_54, ty_55, ty_56, ty_57, ty_58, ty_59, ty_60, ty_61, ty_62, ty_63, ty_64, ty_65, ty_66, ty_67, ty_68, ty_69, ty_70, ty_71, ty_72, ty_73, ty_74, ty_75, ty_76, ty_77, ty_78, pl_3_7, pl_3_12, pl_3_14, pl_3_15, pl_3_17, pl_4_12, pl_5_7, pl_6_16, pl_6_21, pl_7_3, pl_7_7, pl_8_5, pl_12_3, pl_13_1, pl_13_11, pl_15_6, pl_16_8, pl_17_4, pl_19_5, pl_19_12, pl_24_5, pl_24_12, pl_26_1, pl_27_2, pl_28_3, pl_30_3, pl_33_2, hty, e, Enc.enc, wk_agg, wk_tup, wk_sl, wks_cons, wks_nil, wk_int, wk_str, wk_bool, own_no]
  exact wks_map_refl 0 _
end Go.Proofs.Ytiifjjcoepgobaa.Env
