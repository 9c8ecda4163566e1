/- Norm; all; may. -/
import Derived.Test.YtiifjjcoepgobaaYY
set_option autoImplicit false
set_option maxRecDepth 100000
set_option linter.unusedSimpArgs false
set_option linter.unusedVariables false
set_option linter.unusedSectionVars false
namespace Go.Proofs.Ytiifjjcoepgobaa.Env
open Go.Ev

/-! ### Norm -/
def vs (n : Nat) : List Ty := (List.range n).map fun j : Nat => Ty.mk varS (j : Int) []
def normF (t : Ty) : Ty := putF t (varsF t []) (vs (varsF t []).length)
theorem vs_len (n : Nat) : (vs n).length = n := by simp [vs]
theorem vs_succ (n : Nat) : vs (n + 1) = vs n ++ [.mk varS ↑n []] := by simp [vs, List.range_succ]
def qn (t : Ty) : Prop := okT t ∧ (varsF t []).length ≤ 1000
noncomputable abbrev p18 := primVal (ofRel (Rel1 qn normF))
noncomputable def b18_0 : Code := loopOf Try.f18 0
theorem body18 : Try.f18.body = some (.seq (codeAt Try.f18 [0]) (.seq (codeAt Try.f18 [1, 0]) (.seq (codeAt Try.f18 [1, 1, 0]) (.seq (.seq (codeAt Try.f18 [1, 1, 1, 0, 0]) (.block 0 (.loop b18_0))) (codeAt Try.f18 [1, 1, 1, 1]))))) := rfl
theorem loop18 {E : Env} (hty : E.ty = env.ty) (hpl : E.plan = env.plan) (h21 : E.prim 21 = some p21) {L : List Int} (hL : L.length ≤ 1000) {c0 c1 : Ev.Obj} :
    ∀ (k i : Nat) (w : Own) {tm : Tm} {h : H} {x : Option (Ex × Tm × H)}, cdL E 18 23 (.loop b18_0) tm h = x → i + k = L.length → RowE 25 3 h w (Ty.avs (vs i)) → (∀ id, w = .ch id → 2 ≤ id) → h.t.get 0 = some c0 → h.t.get 1 = some c1 → 2 ≤ h.nx →
    tm.get 1 = some (.ptr (some (0, 0))) → tm.get 2 = some (.ptr (some (1, 0))) → tm.get 3 = some (.sl .no (ints L)) → tm.get 4 = some (.sl w (Ty.avs (vs i))) → tm.get 5 = some (.int .i64 ↑i) →
    ∃ tm' h' w', x = some (.exit 0, tm', h') ∧ tm'.get 1 = some (.ptr (some (0, 0))) ∧ tm'.get 2 = some (.ptr (some (1, 0))) ∧ tm'.get 3 = some (.sl .no (ints L)) ∧ tm'.get 4 = some (.sl w' (Ty.avs (vs L.length))) ∧ h'.t.get 0 = some c0 ∧ h'.t.get 1 = some c1
  | 0, i, w, tm, h, x, hx, hk, hr, hw2, z0, z1, hn, g1, g2, g3, g4, g5 => by
    obtain rfl : i = L.length := by omega
    have hil := ints_len L
    obtain ⟨R, hR, hx⟩ := loop_step hx
    simp [b18_0, loopOf, Try.f18, loops, cdL_seq, cdL_region, cdL_drawn, cdL_cond, cdL_block, cdL_skip, cdL_label, cdL_exit, cdL_ret, endL, evSeq, evOne, evAct, evOp, opKind, evPure, evRead, evNew, evWrite, evSlice, natOf, optVal, readAt, AV.cells, wantedA, putTm, val, allVals, evBin, evInt, evStr, evAppend, denseFrom, sizesAre, onesIn, evPlan, recheck, AV.beq_refl, H.new, H.put, fillF, fillAt, allOne, AV.one, setArgs, evRes, resOf, ofVal, ofVal0, blt_dec, ble_dec, beq_dec, T.get_set_ite, T.get_e, isShift, ikBeq, ty_0, ty_1, ty_2, ty_3, ty_4, ty_5, ty_6, ty_7, ty_8, ty_9, ty_10, ty_11, ty_12, ty_13, ty_14, ty_15, ty_16, ty_17, ty_18, ty_19, ty_20, ty_21, ty_22, ty_23, ty_24, ty_25, ty_26, ty_27, ty_28, ty_29, ty_30, ty_31, ty_32, ty_33, ty_34, ty_35, ty_36, ty_37, ty_38, ty_39, ty_40, ty_41, ty_42, ty_43, ty_44, ty_45, ty_46, ty_47, ty_48, ty_49, ty_50, ty_51, ty_52, ty_53, ty_54, ty_55, ty_56, ty_57, ty_58, ty_59, ty_60, ty_61, ty_62, ty_63, ty_64, ty_65, ty_66, ty_67, ty_68, ty_69, ty_70, ty_71, ty_72, ty_73, ty_74, ty_75, ty_76, ty_77, ty_78, pl_3_7, pl_3_12, pl_3_14, pl_3_15, pl_3_17, pl_4_12, pl_5_7, pl_6_16, pl_6_21, pl_7_3, pl_7_7, pl_8_5, pl_12_3, pl_13_1, pl_13_11, pl_15_6, pl_16_8, pl_17_4, pl_19_5, pl_19_12, pl_24_5, pl_24_12, pl_26_1, pl_27_2, pl_28_3, pl_30_3, pl_33_2, lp, hty, hpl, g1, g2, g3, g4, g5, hil, ltI_f] at hx
    exact ⟨_, h, w, hx.symm, by simp [T.get_set_ite, g1], by simp [T.get_set_ite, g2], by simp [T.get_set_ite, g3], by simp [T.get_set_ite, g4], z0, z1⟩
  | k + 1, i, w, tm, h, x, hx, hk, hr, hw2, z0, z1, hn, g1, g2, g3, g4, g5 => by
    have hil := ints_len L
    have hlt' := ltI_t (a := i) (b := L.length) (by omega)
    have hw := wr_succ (i := i) (by omega)
    have k21 := fun h => c21 h21 (↑i) h
    have hadd := avs_add (vs i) (.mk varS ↑i [])
    rw [← vs_succ] at hadd
    have hsz := avs_sizes (vs i)
    have hdl2 : (Ty.avs (vs i)).length = i := by rw [avs_len, vs_len]
    have hby : (i + 1) * 48 ≤ 140737488355328 := by omega
    simp only [Ty.av, Ty.avs] at k21 hadd
    obtain ⟨R, hR, hx⟩ := loop_step hx
    have n0 : (0 : Nat) ≠ h.nx := by omega
    have n1 : (1 : Nat) ≠ h.nx := by omega
    rcases hr with ⟨rfl, e0⟩ | ⟨id, rfl, hg, hid⟩
    · obtain rfl : i = 0 := by rw [e0] at hdl2; simpa using hdl2.symm
      simp [vs, Ty.avs] at g4 hadd
      simp at k21 g5 hlt' hw
      simp [b18_0, loopOf, Try.f18, loops, cdL_seq, cdL_region, cdL_drawn, cdL_cond, cdL_block, cdL_skip, cdL_label, cdL_exit, cdL_ret, endL, evSeq, evOne, evAct, evOp, opKind, evPure, evRead, evNew, evWrite, evSlice, natOf, optVal, readAt, AV.cells, wantedA, putTm, val, allVals, evBin, evInt, evStr, evAppend, denseFrom, sizesAre, onesIn, evPlan, recheck, AV.beq_refl, H.new, H.put, fillF, fillAt, allOne, AV.one, setArgs, evRes, resOf, ofVal, ofVal0, blt_dec, ble_dec, beq_dec, T.get_set_ite, T.get_e, isShift, ikBeq, ty_0, ty_1, ty_2, ty_3, ty_4, ty_5, ty_6, ty_7, ty_8, ty_9, ty_10, ty_11, ty_12, ty_13, ty_14, ty_15, ty_16, ty_17, ty_18, ty_19, ty_20, ty_21, ty_22, ty_23, ty_24, ty_25, ty_26, ty_27, ty_28, ty_29, ty_30, ty_31, ty_32, ty_33, ty_34, ty_35, ty_36, ty_37, ty_38, ty_39, ty_40, ty_41, ty_42, ty_43, ty_44, ty_45, ty_46, ty_47, ty_48, ty_49, ty_50, ty_51, ty_52, ty_53, ty_54, ty_55, ty_56, ty_57, ty_58, ty_59, ty_60, ty_61, ty_62, ty_63, ty_64, ty_65, ty_66, ty_67, ty_68, ty_69, ty_70, ty_71, ty_72, ty_73, ty_74, ty_75, ty_76, ty_77, ty_78, pl_3_7, pl_3_12, pl_3_14, pl_3_15, pl_3_17, pl_4_12, pl_5_7, pl_6_16, pl_6_21, pl_7_3, pl_7_7, pl_8_5, pl_12_3, pl_13_1, pl_13_11, pl_15_6, pl_16_8, pl_17_4, pl_19_5, pl_19_12, pl_24_5, pl_24_12, pl_26_1, pl_27_2, pl_28_3, pl_30_3, pl_33_2, lp, hty, hpl, g1, g2, g3, g4, g5, hil, hlt', hw, k21] at hx
      rw [hR] at hx
      refine loop18 hty hpl h21 hL k 1 (.ch h.nx) hx (by omega) (.inr ⟨_, rfl, by simp [T.get_set_ite, vs, Ty.avs], by simp⟩) (fun id e => by cases e; omega) (by simp [T.get_set_ite, n0, z0]) (by simp [T.get_set_ite, n1, z1]) (by simp; omega) (by simp [T.get_set_ite, g1]) (by simp [T.get_set_ite, g2]) (by simp [T.get_set_ite, g3]) ?_ (by simp [T.get_set_ite])
      simp [T.get_set_ite, vs, Ty.avs, Ty.av, List.range_succ]
    · have hi2 := hw2 id rfl
      have m0 : (0 : Nat) ≠ id := by omega
      have m1 : (1 : Nat) ≠ id := by omega
      rw [hdl2] at hg
      simp [b18_0, loopOf, Try.f18, loops, cdL_seq, cdL_region, cdL_drawn, cdL_cond, cdL_block, cdL_skip, cdL_label, cdL_exit, cdL_ret, endL, evSeq, evOne, evAct, evOp, opKind, evPure, evRead, evNew, evWrite, evSlice, natOf, optVal, readAt, AV.cells, wantedA, putTm, val, allVals, evBin, evInt, evStr, evAppend, denseFrom, sizesAre, onesIn, evPlan, recheck, AV.beq_refl, H.new, H.put, fillF, fillAt, allOne, AV.one, setArgs, evRes, resOf, ofVal, ofVal0, blt_dec, ble_dec, beq_dec, T.get_set_ite, T.get_e, isShift, ikBeq, ty_0, ty_1, ty_2, ty_3, ty_4, ty_5, ty_6, ty_7, ty_8, ty_9, ty_10, ty_11, ty_12, ty_13, ty_14, ty_15, ty_16, ty_17, ty_18, ty_19, ty_20, ty_21, ty_22, ty_23, ty_24, ty_25, ty_26, ty_27, ty_28, ty_29, ty_30, ty_31, ty_32, ty_33, ty_34, ty_35, ty_36, ty_37, ty_38, ty_39, ty_40, ty_41, ty_42, ty_43, ty_44, ty_45, ty_46, ty_47, ty_48, ty_49, ty_50, ty_51, ty_52, ty_53, ty_54, ty_55, ty_56, ty_57, ty_58, ty_59, ty_60, ty_61, ty_62, ty_63, ty_64, ty_65, ty_66, ty_67, ty_68, ty_69, ty_70, ty_71, ty_72, ty_73, ty_74, ty_75, ty_76, ty_77, ty_78, pl_3_7, pl_3_12, pl_3_14, pl_3_15, pl_3_17, pl_4_12, pl_5_7, pl_6_16, pl_6_21, pl_7_3, pl_7_7, pl_8_5, pl_12_3, pl_13_1, pl_13_11, pl_15_6, pl_16_8, pl_17_4, pl_19_5, pl_19_12, pl_24_5, pl_24_12, pl_26_1, pl_27_2, pl_28_3, pl_30_3, pl_33_2, lp, hty, hpl, g1, g2, g3, g4, g5, hil, hlt', hw, k21, hg, hsz, hdl2, hby, hadd] at hx
      rw [hR] at hx
      exact loop18 hty hpl h21 hL k (i + 1) (.ch id) hx (by omega) (.inr ⟨_, rfl, by simp [T.get_set_ite, avs_len, vs_len], by simp; omega⟩) hw2 (by simp [T.get_set_ite, m0, z0]) (by simp [T.get_set_ite, m1, z1]) (by simp; omega) (by simp [T.get_set_ite, g1]) (by simp [T.get_set_ite, g2]) (by simp [T.get_set_ite, g3]) (by simp [T.get_set_ite]) (by simp [T.get_set_ite])
noncomputable def envN : Env := addPrim (addPrim envA 23 p23b) 24 p24
theorem envN_ok : EnvOk Try.prog envN := addPrim_ok (addPrim_ok envA_ok p23b_ok) p24_ok
theorem p18_ok : PrimOk Try.prog 18 p18 := prim1_ok envN_ok (fn := Try.f18) (by kernel_rfl) body18 (by kernel_rfl) fun t hq => by
  obtain ⟨hot, hl⟩ := hq
  have hty : envN.ty = env.ty := rfl
  have hpl : envN.plan = env.plan := rfl
  have k23 := fun h => c23b (E := envN) (by kernel_rfl) (Ty.av_bare 0 t) hot.2 (by omega) h
  have hil := ints_len (varsF t [])
  have k24 := fun w h => c24 (E := envN) (x := t.av) (y := .sl .no (ints (varsF t []))) (z := .sl w (Ty.avs (vs (varsF t []).length))) (t := t) (l := varsF t []) (us := vs (varsF t []).length) (by kernel_rfl) (Ty.av_bare 0 t) (Enc.bare 0 (varsF t [])) (by simp only [wk_agg, wk_tup, wk_sl, wks_cons, wks_nil, wk_int, wk_str, wk_bool, own_no]; exact ⟨trivial, by rw [Ty.avs_map]; exact wks_map_refl 0 (vs (varsF t []).length)⟩) ⟨each_good hot.1, by rw [vs_len]; omega, by omega⟩ h
  have hL := fun (x : Option (Ex × Tm × H)) tm h => loop18 (E := envN) hty hpl (by kernel_rfl) (L := varsF t []) hl (c0 := .cells t.av.cells) (c1 := .cells [.str [], .int .i64 0, .sl .full []]) (varsF t []).length 0 .full (x := x) (tm := tm) (h := h)
  obtain ⟨u0, u1, u2, hu⟩ := av_cells (normF t)
  have hb := Ty.av_bare 0 (normF t)
  rw [show (Enc.enc t : AV) = t.av from rfl, show (Enc.enc (normF t) : AV) = (normF t).av from rfl]
  rw [show putF t (varsF t []) (vs (varsF t []).length) = normF t from rfl] at k24
  obtain ⟨a0, a1, a2, ha⟩ := av_cells t
  rw [ha] at k23 k24 hL ⊢
  rw [hu] at k24 hb ⊢
  simp only [AV.cells] at hL
  unfold bodyL
  simp only [codeAt, sub, Try.f18]
  simp [cdL_seq, cdL_region, cdL_drawn, cdL_cond, cdL_block, cdL_skip, cdL_label, cdL_exit, cdL_ret, endL, evSeq, evOne, evAct, evOp, opKind, evPure, evRead, evNew, evWrite, evSlice, natOf, optVal, readAt, AV.cells, wantedA, putTm, val, allVals, evBin, evInt, evStr, evAppend, denseFrom, sizesAre, onesIn, evPlan, recheck, AV.beq_refl, H.new, H.put, fillF, fillAt, allOne, AV.one, setArgs, evRes, resOf, ofVal, ofVal0, blt_dec, ble_dec, beq_dec, T.get_set_ite, T.get_e, isShift, ikBeq, ty_0, ty_1, ty_2, ty_3, ty_4, ty_5, ty_6, ty_7, ty_8, ty_9, ty_10, ty_11, ty_12, ty_13, ty_14, ty_15, ty_16, ty_17, ty_18, ty_19, ty_20, ty_21, ty_22, ty_23, ty_24, ty_25, ty_26, ty_27, ty_28, ty_29, ty_30, ty_31, ty_32, ty_33, ty_34, ty_35, ty_36, ty_37, ty_38, ty_39, ty_40, ty_41, ty_42, ty_43, ty_44, ty_45, ty_46, ty_47, ty_48, ty_49, ty_50, ty_51, ty_52, ty_53, ty_54, ty_55, ty_56, ty_57, ty_58, ty_59, ty_60, ty_61, ty_62, ty_63, ty_64, ty_65, ty_66, ty_67, ty_68, ty_69, ty_70, ty_71, ty_72, ty_73, ty_74, ty_75, ty_76, ty_77, ty_78, pl_3_7, pl_3_12, pl_3_14, pl_3_15, pl_3_17, pl_4_12, pl_5_7, pl_6_16, pl_6_21, pl_7_3, pl_7_7, pl_8_5, pl_12_3, pl_13_1, pl_13_11, pl_15_6, pl_16_8, pl_17_4, pl_19_5, pl_19_12, pl_24_5, pl_24_12, pl_26_1, pl_27_2, pl_28_3, pl_30_3, pl_33_2, hty, hpl, k23]
  generalize hx : cdL envN 18 23 (.loop b18_0) _ _ = x
  obtain ⟨tm', h', w', rfl, q1, q2, q3, q4, q5, q6⟩ := hL x _ _ hx (by omega) (.inl ⟨rfl, rfl⟩) (fun id e => by cases e) (by simp [T.get_set_ite]) (by simp [T.get_set_ite]) (by simp) (by simp [T.get_set_ite]) (by simp [T.get_set_ite]) (by simp [T.get_set_ite]) (by simp [T.get_set_ite, vs, Ty.avs]) (by simp [T.get_set_ite])
  simp [cdL_seq, cdL_region, cdL_drawn, cdL_cond, cdL_block, cdL_skip, cdL_label, cdL_exit, cdL_ret, endL, evSeq, evOne, evAct, evOp, opKind, evPure, evRead, evNew, evWrite, evSlice, natOf, optVal, readAt, AV.cells, wantedA, putTm, val, allVals, evBin, evInt, evStr, evAppend, denseFrom, sizesAre, onesIn, evPlan, recheck, AV.beq_refl, H.new, H.put, fillF, fillAt, allOne, AV.one, setArgs, evRes, resOf, ofVal, ofVal0, blt_dec, ble_dec, beq_dec, T.get_set_ite, T.get_e, isShift, ikBeq, ty_0, ty_1, ty_2, ty_3, ty_4, ty_5, ty_6, ty_7, ty_8, ty_9, ty_10, ty_11, ty_12, ty_13, ty_14, ty_15, ty_16, ty_17, ty_18, ty_19, ty_20, ty_21, ty_22, ty_23, ty_24, ty_25, ty_26, ty_27, ty_28, ty_29, ty_30, ty_31, ty_32, ty_33, ty_34, ty_35, ty_36, ty_37, ty_38, ty_39, ty_40, ty_41, ty_42, ty_43, ty_44, ty_45, ty_46, ty_47, ty_48, ty_49, ty_50, ty_51, ty_52, ty_53, ty_54, ty_55, ty_56, ty_57, ty_58, ty_59, ty_60, ty_61, ty_62, ty_63, ty_64, ty_65, ty_66, ty_67, ty_68, ty_69, ty_70, ty_71, ty_72, ty_73, ty_74, ty_75, ty_76, ty_77, ty_78, pl_3_7, pl_3_12, pl_3_14, pl_3_15, pl_3_17, pl_4_12, pl_5_7, pl_6_16, pl_6_21, pl_7_3, pl_7_7, pl_8_5, pl_12_3, pl_13_1, pl_13_11, pl_15_6, pl_16_8, pl_17_4, pl_19_5, pl_19_12, pl_24_5, pl_24_12, pl_26_1, pl_27_2, pl_28_3, pl_30_3, pl_33_2, hty, hpl, q1, q2, q3, q4, q5, q6, k24]
  exact hb
theorem c18 {E : Env} (hp : E.prim 18 = some p18) {x : AV} {t : Ty} (hx : x.wk 0 t.av) (hq : qn t) (h : H) : evL E 18 [x] h = some ((normF t).av, h) :=
  prim1_call (a := t) (F := normF) (q := qn) hp hx hq h
end Go.Proofs.Ytiifjjcoepgobaa.Env
/- Pairs: all of them in one type; may they be looked at. -/
set_option autoImplicit false
set_option maxRecDepth 100000
set_option linter.unusedSimpArgs false
set_option linter.unusedVariables false
set_option linter.unusedSectionVars false
namespace Go.Proofs.Ytiifjjcoepgobaa.Env
open Go.Ev

def prAV (p : Ty × Ty) : AV := .agg (p.1.av.cells ++ p.2.av.cells)
def prs (ps : List (Ty × Ty)) : List AV := ps.map prAV
theorem prs_len (ps : List (Ty × Ty)) : (prs ps).length = ps.length := List.length_map ..
theorem prs_get {ps : List (Ty × Ty)} {i : Nat} {p : Ty × Ty} (h : ps[i]? = some p) : (prs ps)[i]? = some (prAV p) := by unfold prs; rw [List.getElem?_map, h]; rfl
def pairS : List Nat := [112, 97, 105, 114]
def allF : List (Ty × Ty) → Ty → Ty
  | [], t => t
  | (a, b) :: l, t => allF l (.mk pairS 0 [t, .mk pairS 0 [a, b]])
theorem c25 {E : Env} (hp : E.prim 25 = some p25) {o : List Nat} {w : Own} {els : List AV} {ks : List Ty} (hk : AV.wks 0 els (Ty.avs ks)) (h : H) : evL E 25 [.str o, .sl w els] h = some ((Ty.mk o 0 ks).av, h) :=
  prim2_call (α := Str) (β := List Ty) (a := ⟨o⟩) (b := ks) (F := fun o ks => Ty.mk o.s 0 ks) hp (by simp [AV.wk, Enc.enc]) (by
    rw [avs_enc]; simp only [wk_agg, wk_tup, wk_sl, wks_cons, wks_nil, wk_int, wk_str, wk_bool, own_no]; exact ⟨trivial, hk⟩) trivial h
noncomputable def b17_0 : Code := loopOf Try.f17 0
theorem body17 : Try.f17.body = some (.seq (codeAt Try.f17 [0]) (.seq (.seq (codeAt Try.f17 [1, 0, 0]) (.block 0 (.loop b17_0))) (codeAt Try.f17 [1, 1]))) := rfl
theorem loop17 {E : Env} (hty : E.ty = env.ty) (hpl : E.plan = env.plan) (h25 : E.prim 25 = some p25) {ps : List (Ty × Ty)} (hl : ps.length ≤ 1000) {b3 b4 : Nat} :
    ∀ (l : List (Ty × Ty)) (i : Nat) (t : Ty) {tm : Tm} {h : H} {x : Option (Ex × Tm × H)}, cdL E 17 28 (.loop b17_0) tm h = x → l = ps.drop i → i ≤ ps.length → h.t.get b3 = some (.cells t.av.cells) → b3 < h.nx →
    tm.get 0 = some (.sl .no (prs ps)) → tm.get 3 = some (.ptr (some (b3, 0))) → tm.get 4 = some (.ptr (some (b4, 0))) → tm.get 5 = some (.int .i64 ↑i) →
    ∃ tm' h', x = some (.exit 0, tm', h') ∧ tm'.get 3 = some (.ptr (some (b3, 0))) ∧ tm'.get 4 = some (.ptr (some (b4, 0))) ∧ h'.t.get b3 = some (.cells (allF l t).av.cells) ∧ h'.nx = h.nx ∧ ∀ j, j ≠ b3 → h'.t.get j = h.t.get j
  | [], i, t, tm, h, x, hx, hd, hi, hz, hn, g0, g3, g4, g5 => by
    have hlen := dnil hd hi
    have hil := prs_len ps
    rw [hlen] at hil
    obtain ⟨R, hR, hx⟩ := loop_step hx
    simp [b17_0, loopOf, Try.f17, loops, cdL_seq, cdL_region, cdL_drawn, cdL_cond, cdL_block, cdL_skip, cdL_label, cdL_exit, cdL_ret, endL, evSeq, evOne, evAct, evOp, opKind, evPure, evRead, evNew, evWrite, evSlice, natOf, optVal, readAt, AV.cells, wantedA, putTm, val, allVals, evBin, evInt, evStr, evAppend, denseFrom, sizesAre, onesIn, evPlan, recheck, AV.beq_refl, H.new, H.put, fillF, fillAt, allOne, AV.one, setArgs, evRes, resOf, ofVal, ofVal0, blt_dec, ble_dec, beq_dec, T.get_set_ite, T.get_e, isShift, ikBeq, ty_0, ty_1, ty_2, ty_3, ty_4, ty_5, ty_6, ty_7, ty_8, ty_9, ty_10, ty_11, ty_12, ty_13, ty_14, ty_15, ty_16, ty_17, ty_18, ty_19, ty_20, ty_21, ty_22, ty_23, ty_24, ty_25, ty_26, ty_27, ty_28, ty_29, ty_30, ty_31, ty_32, ty_33, ty_34, ty_35, ty_36, ty_37, ty_38, ty_39, ty_40, ty_41, ty_42, ty_43, ty_44, ty_45, ty_46, ty_47, ty_48, ty_49, ty_50, ty_51, ty_52, ty_53, ty_54, ty_55, ty_56, ty_57, ty_58, ty_59, ty_60, ty_61, ty_62, ty_63, ty_64, ty_65, ty_66, ty_67, ty_68, ty_69, ty_70, ty_71, ty_72, ty_73, ty_74, ty_75, ty_76, ty_77, ty_78, pl_3_7, pl_3_12, pl_3_14, pl_3_15, pl_3_17, pl_4_12, pl_5_7, pl_6_16, pl_6_21, pl_7_3, pl_7_7, pl_8_5, pl_12_3, pl_13_1, pl_13_11, pl_15_6, pl_16_8, pl_17_4, pl_19_5, pl_19_12, pl_24_5, pl_24_12, pl_26_1, pl_27_2, pl_28_3, pl_30_3, pl_33_2, lp, hty, hpl, g0, g3, g4, g5, hil, ltI_f] at hx
    exact ⟨_, h, hx.symm, by simp [T.get_set_ite, g3], by simp [T.get_set_ite, g4], hz, rfl, fun _ _ => rfl⟩
  | (a, b) :: l, i, t, tm, h, x, hx, hd, hi, hz, hn, g0, g3, g4, g5 => by
    obtain ⟨hlt, hct, hd'⟩ := dcons hd
    have hil := prs_len ps
    have hat := prs_get hct
    have hlt' := ltI_t hlt
    have hw := wr_succ (i := i) (by omega)
    have k1 := fun w h => c25 h25 (o := pairS) (w := w) (els := [a.av, b.av]) (ks := [a, b]) (by have := wks_map_refl 0 [a, b]; simpa [Ty.avs, Enc.enc] using this) h
    have k2 := fun w h => c25 h25 (o := pairS) (w := w) (els := [t.av, (Ty.mk pairS 0 [a, b]).av]) (ks := [t, .mk pairS 0 [a, b]]) (by have := wks_map_refl 0 [t, Ty.mk pairS 0 [a, b]]; simpa [Ty.avs, Enc.enc] using this) h
    have hres : h.t.get b3 = some (.cells t.av.cells) := hz
    obtain ⟨a0, a1, a2, ha⟩ := av_cells a
    obtain ⟨b0, b1, b2, hb⟩ := av_cells b
    obtain ⟨t0, t1, t2, ht⟩ := av_cells t
    simp only [prAV] at hat
    simp only [Ty.av, Ty.avs, pairS] at k1 k2
    rw [ha, hb] at hat k1 k2
    rw [ht] at hz k2
    simp only [AV.cells, List.cons_append, List.nil_append] at hat hz
    obtain ⟨R, hR, hx⟩ := loop_step hx
    simp [b17_0, loopOf, Try.f17, loops, cdL_seq, cdL_region, cdL_drawn, cdL_cond, cdL_block, cdL_skip, cdL_label, cdL_exit, cdL_ret, endL, evSeq, evOne, evAct, evOp, opKind, evPure, evRead, evNew, evWrite, evSlice, natOf, optVal, readAt, AV.cells, wantedA, putTm, val, allVals, evBin, evInt, evStr, evAppend, denseFrom, sizesAre, onesIn, evPlan, recheck, AV.beq_refl, H.new, H.put, fillF, fillAt, allOne, AV.one, setArgs, evRes, resOf, ofVal, ofVal0, blt_dec, ble_dec, beq_dec, T.get_set_ite, T.get_e, isShift, ikBeq, ty_0, ty_1, ty_2, ty_3, ty_4, ty_5, ty_6, ty_7, ty_8, ty_9, ty_10, ty_11, ty_12, ty_13, ty_14, ty_15, ty_16, ty_17, ty_18, ty_19, ty_20, ty_21, ty_22, ty_23, ty_24, ty_25, ty_26, ty_27, ty_28, ty_29, ty_30, ty_31, ty_32, ty_33, ty_34, ty_35, ty_36, ty_37, ty_38, ty_39, ty_40, ty_41, ty_42, ty_43, ty_44, ty_45, ty_46, ty_47, ty_48, ty_49, ty_50, ty_51, ty_52, ty_53, ty_54, ty_55, ty_56, ty_57, ty_58, ty_59, ty_60, ty_61, ty_62, ty_63, ty_64, ty_65, ty_66, ty_67, ty_68, ty_69, ty_70, ty_71, ty_72, ty_73, ty_74, ty_75, ty_76, ty_77, ty_78, pl_3_7, pl_3_12, pl_3_14, pl_3_15, pl_3_17, pl_4_12, pl_5_7, pl_6_16, pl_6_21, pl_7_3, pl_7_7, pl_8_5, pl_12_3, pl_13_1, pl_13_11, pl_15_6, pl_16_8, pl_17_4, pl_19_5, pl_19_12, pl_24_5, pl_24_12, pl_26_1, pl_27_2, pl_28_3, pl_30_3, pl_33_2, lp, hty, hpl, g0, g3, g4, g5, hil, hlt', hat, hz, k1, k2, hw, bytesOf] at hx
    rw [hR] at hx
    obtain ⟨tm', h', q1, q2, q3, q4, q5, q6⟩ := loop17 hty hpl h25 hl (b3 := b3) (b4 := b4) l (i + 1) (.mk pairS 0 [t, .mk pairS 0 [a, b]]) hx hd' hlt (by simp [T.get_set_ite, Ty.av, Ty.avs, pairS, AV.cells, ha, hb, ht]) (by simpa using hn) (by simp [T.get_set_ite, g0]) (by simp [T.get_set_ite, g3]) (by simp [T.get_set_ite, g4]) (by simp [T.get_set_ite])
    refine ⟨tm', h', q1, q2, q3, q4, by simpa using q5, fun j hj => ?_⟩
    rw [q6 j hj]
    simp [T.get_set_ite, hj]
theorem all_run {E : Env} (hty : E.ty = env.ty) (hpl : E.plan = env.plan) (hp : E.prim 17 = none) (hfn : E.fns 17 = some Try.f17) (h25 : E.prim 25 = some p25) {ps : List (Ty × Ty)} (hl : ps.length ≤ 1000) (t : Ty) (h : H) :
    ∃ h', evL E 17 [.sl .no (prs ps), t.av] h = some ((allF ps t).av, h') ∧ New h h' := by
  have hL := fun (x : Option (Ex × Tm × H)) tm h1 => loop17 hty hpl h25 hl (b3 := h.nx) (b4 := h.nx + 1) ps 0 t (x := x) (tm := tm) (h := h1)
  obtain ⟨t0, t1, t2, ht⟩ := av_cells t
  obtain ⟨u0, u1, u2, hu⟩ := av_cells (allF ps t)
  rw [ht] at hL ⊢
  rw [hu] at hL ⊢
  simp only [AV.cells] at hL
  rw [evL_fn E hp hfn body17 _ _ rfl]
  simp only [codeAt, sub, Try.f17]
  simp [cdL_seq, cdL_region, cdL_drawn, cdL_cond, cdL_block, cdL_skip, cdL_label, cdL_exit, cdL_ret, endL, evSeq, evOne, evAct, evOp, opKind, evPure, evRead, evNew, evWrite, evSlice, natOf, optVal, readAt, AV.cells, wantedA, putTm, val, allVals, evBin, evInt, evStr, evAppend, denseFrom, sizesAre, onesIn, evPlan, recheck, AV.beq_refl, H.new, H.put, fillF, fillAt, allOne, AV.one, setArgs, evRes, resOf, ofVal, ofVal0, blt_dec, ble_dec, beq_dec, T.get_set_ite, T.get_e, isShift, ikBeq, ty_0, ty_1, ty_2, ty_3, ty_4, ty_5, ty_6, ty_7, ty_8, ty_9, ty_10, ty_11, ty_12, ty_13, ty_14, ty_15, ty_16, ty_17, ty_18, ty_19, ty_20, ty_21, ty_22, ty_23, ty_24, ty_25, ty_26, ty_27, ty_28, ty_29, ty_30, ty_31, ty_32, ty_33, ty_34, ty_35, ty_36, ty_37, ty_38, ty_39, ty_40, ty_41, ty_42, ty_43, ty_44, ty_45, ty_46, ty_47, ty_48, ty_49, ty_50, ty_51, ty_52, ty_53, ty_54, ty_55, ty_56, ty_57, ty_58, ty_59, ty_60, ty_61, ty_62, ty_63, ty_64, ty_65, ty_66, ty_67, ty_68, ty_69, ty_70, ty_71, ty_72, ty_73, ty_74, ty_75, ty_76, ty_77, ty_78, pl_3_7, pl_3_12, pl_3_14, pl_3_15, pl_3_17, pl_4_12, pl_5_7, pl_6_16, pl_6_21, pl_7_3, pl_7_7, pl_8_5, pl_12_3, pl_13_1, pl_13_11, pl_15_6, pl_16_8, pl_17_4, pl_19_5, pl_19_12, pl_24_5, pl_24_12, pl_26_1, pl_27_2, pl_28_3, pl_30_3, pl_33_2, hty, hpl]
  generalize hx : cdL E 17 28 (.loop b17_0) _ _ = x
  obtain ⟨tm', h', rfl, q1, q2, q3, q4, q5⟩ := hL x _ _ hx rfl (Nat.zero_le _) (by simp [T.get_set_ite]) (by simp; omega) (by simp [T.get_set_ite]) (by simp [T.get_set_ite]) (by simp [T.get_set_ite]) (by simp [T.get_set_ite])
  have hz4 := q5 (h.nx + 1) (by omega)
  simp [T.get_set_ite] at hz4
  simp [cdL_seq, cdL_region, cdL_drawn, cdL_cond, cdL_block, cdL_skip, cdL_label, cdL_exit, cdL_ret, endL, evSeq, evOne, evAct, evOp, opKind, evPure, evRead, evNew, evWrite, evSlice, natOf, optVal, readAt, AV.cells, wantedA, putTm, val, allVals, evBin, evInt, evStr, evAppend, denseFrom, sizesAre, onesIn, evPlan, recheck, AV.beq_refl, H.new, H.put, fillF, fillAt, allOne, AV.one, setArgs, evRes, resOf, ofVal, ofVal0, blt_dec, ble_dec, beq_dec, T.get_set_ite, T.get_e, isShift, ikBeq, ty_0, ty_1, ty_2, ty_3, ty_4, ty_5, ty_6, ty_7, ty_8, ty_9, ty_10, ty_11, ty_12, ty_13, ty_14, ty_15, ty_16, ty_17, ty_18, ty_19, ty_20, ty_21, ty_22, ty_23, ty_24, ty_25, ty_26, ty_27, ty_28, ty_29, ty_30, ty_31, ty_32, ty_33, ty_34, ty_35, ty_36, ty_37, ty_38, ty_39, ty_40, ty_41, ty_42, ty_43, ty_44, ty_45, ty_46, ty_47, ty_48, ty_49, ty_50, ty_51, ty_52, ty_53, ty_54, ty_55, ty_56, ty_57, ty_58, ty_59, ty_60, ty_61, ty_62, ty_63, ty_64, ty_65, ty_66, ty_67, ty_68, ty_69, ty_70, ty_71, ty_72, ty_73, ty_74, ty_75, ty_76, ty_77, ty_78, pl_3_7, pl_3_12, pl_3_14, pl_3_15, pl_3_17, pl_4_12, pl_5_7, pl_6_16, pl_6_21, pl_7_3, pl_7_7, pl_8_5, pl_12_3, pl_13_1, pl_13_11, pl_15_6, pl_16_8, pl_17_4, pl_19_5, pl_19_12, pl_24_5, pl_24_12, pl_26_1, pl_27_2, pl_28_3, pl_30_3, pl_33_2, hty, hpl, q1, q2, q3, hz4]
  refine ⟨by simp at q4; simp; omega, fun j hj => ?_⟩
  simp only [T.get_set_ite]
  rw [if_neg (by omega), q5 j (by omega)]
  simp only [T.get_set_ite]
  rw [if_neg (by omega), if_neg (by omega)]
/-! ### may -/
def mayG : Nat → List (Ty × Ty) → Int → Bool
  | 0, _, _ => true
  | _ + 1, [], _ => true
  | k + 1, (a, b) :: l, n => !ltI 60 (n + szF a 100 + szF b 100) && (isF a && (isF b && mayG k l (n + szF a 100 + szF b 100)))
def mayF (ps : List (Ty × Ty)) : Bool := mayG 20 ps 0 && ltI ↑ps.length 20
noncomputable def b8_0 : Code := loopOf Try.f8 0
theorem body8 : Try.f8.body = some (.seq (codeAt Try.f8 [0]) (.seq (codeAt Try.f8 [1, 0]) (.seq (.seq (codeAt Try.f8 [1, 1, 0, 0]) (.block 0 (.loop b8_0))) (codeAt Try.f8 [1, 1, 1])))) := rfl
theorem wr_add {a b : Int} (h1 : -1000000 ≤ a + b) (h2 : a + b ≤ 1000000) : wr .i64 (a + b) = a + b := by rw [wr_eq]; exact wrap_i64_in (by omega) (by omega)
theorem loop8 {E : Env} (hty : E.ty = env.ty) (hpl : E.plan = env.plan) (h9 : E.prim 9 = some p9) (h10 : E.prim 10 = some p10) {ps : List (Ty × Ty)} (hl : ps.length ≤ 9223372036854775807) (hf : ∀ p ∈ ps, fit p.1 ∧ fit p.2) :
    ∀ (k : Nat) (l : List (Ty × Ty)) (i : Nat) (n : Int) {tm : Tm} {h : H} {x : Option (Ex × Tm × H)}, cdL E 8 53 (.loop b8_0) tm h = x → l = ps.drop i → i ≤ ps.length → i + k = 20 → 0 ≤ n → n ≤ 60 →
    tm.get 0 = some (.sl .no (prs ps)) → tm.get 2 = some (.bool false) → tm.get 3 = some (.int .i64 n) → tm.get 4 = some (.int .i64 ↑i) →
    ∃ tm', (bif mayG k l n then x = some (.exit 0, tm', h) else x = some (.ret, tm', h)) ∧ tm'.get 0 = some (.sl .no (prs ps)) ∧ tm'.get 2 = some (.bool false)
  | 0, l, i, n, tm, h, x, hx, hd, hi, hk, hn0, hn, g0, g2, g3, g4 => by
    obtain rfl : i = 20 := by omega
    have hil := prs_len ps
    obtain ⟨R, hR, hx⟩ := loop_step hx
    simp only [mayG, cond_true]
    cases hc : ltI ↑(20 : Nat) ↑ps.length with
    | true =>
      have e : ltI 20 20 = false := rfl
      simp at hc g4
      simp [b8_0, loopOf, Try.f8, loops, cdL_seq, cdL_region, cdL_drawn, cdL_cond, cdL_block, cdL_skip, cdL_label, cdL_exit, cdL_ret, endL, evSeq, evOne, evAct, evOp, opKind, evPure, evRead, evNew, evWrite, evSlice, natOf, optVal, readAt, AV.cells, wantedA, putTm, val, allVals, evBin, evInt, evStr, evAppend, denseFrom, sizesAre, onesIn, evPlan, recheck, AV.beq_refl, H.new, H.put, fillF, fillAt, allOne, AV.one, setArgs, evRes, resOf, ofVal, ofVal0, blt_dec, ble_dec, beq_dec, T.get_set_ite, T.get_e, isShift, ikBeq, ty_0, ty_1, ty_2, ty_3, ty_4, ty_5, ty_6, ty_7, ty_8, ty_9, ty_10, ty_11, ty_12, ty_13, ty_14, ty_15, ty_16, ty_17, ty_18, ty_19, ty_20, ty_21, ty_22, ty_23, ty_24, ty_25, ty_26, ty_27, ty_28, ty_29, ty_30, ty_31, ty_32, ty_33, ty_34, ty_35, ty_36, ty_37, ty_38, ty_39, ty_40, ty_41, ty_42, ty_43, ty_44, ty_45, ty_46, ty_47, ty_48, ty_49, ty_50, ty_51, ty_52, ty_53, ty_54, ty_55, ty_56, ty_57, ty_58, ty_59, ty_60, ty_61, ty_62, ty_63, ty_64, ty_65, ty_66, ty_67, ty_68, ty_69, ty_70, ty_71, ty_72, ty_73, ty_74, ty_75, ty_76, ty_77, ty_78, pl_3_7, pl_3_12, pl_3_14, pl_3_15, pl_3_17, pl_4_12, pl_5_7, pl_6_16, pl_6_21, pl_7_3, pl_7_7, pl_8_5, pl_12_3, pl_13_1, pl_13_11, pl_15_6, pl_16_8, pl_17_4, pl_19_5, pl_19_12, pl_24_5, pl_24_12, pl_26_1, pl_27_2, pl_28_3, pl_30_3, pl_33_2, lp, hty, hpl, g0, g2, g3, g4, hil, hc, e] at hx
      exact ⟨_, hx.symm, by simp [T.get_set_ite, g0], by simp [T.get_set_ite, g2]⟩
    | false =>
      simp at hc g4
      simp [b8_0, loopOf, Try.f8, loops, cdL_seq, cdL_region, cdL_drawn, cdL_cond, cdL_block, cdL_skip, cdL_label, cdL_exit, cdL_ret, endL, evSeq, evOne, evAct, evOp, opKind, evPure, evRead, evNew, evWrite, evSlice, natOf, optVal, readAt, AV.cells, wantedA, putTm, val, allVals, evBin, evInt, evStr, evAppend, denseFrom, sizesAre, onesIn, evPlan, recheck, AV.beq_refl, H.new, H.put, fillF, fillAt, allOne, AV.one, setArgs, evRes, resOf, ofVal, ofVal0, blt_dec, ble_dec, beq_dec, T.get_set_ite, T.get_e, isShift, ikBeq, ty_0, ty_1, ty_2, ty_3, ty_4, ty_5, ty_6, ty_7, ty_8, ty_9, ty_10, ty_11, ty_12, ty_13, ty_14, ty_15, ty_16, ty_17, ty_18, ty_19, ty_20, ty_21, ty_22, ty_23, ty_24, ty_25, ty_26, ty_27, ty_28, ty_29, ty_30, ty_31, ty_32, ty_33, ty_34, ty_35, ty_36, ty_37, ty_38, ty_39, ty_40, ty_41, ty_42, ty_43, ty_44, ty_45, ty_46, ty_47, ty_48, ty_49, ty_50, ty_51, ty_52, ty_53, ty_54, ty_55, ty_56, ty_57, ty_58, ty_59, ty_60, ty_61, ty_62, ty_63, ty_64, ty_65, ty_66, ty_67, ty_68, ty_69, ty_70, ty_71, ty_72, ty_73, ty_74, ty_75, ty_76, ty_77, ty_78, pl_3_7, pl_3_12, pl_3_14, pl_3_15, pl_3_17, pl_4_12, pl_5_7, pl_6_16, pl_6_21, pl_7_3, pl_7_7, pl_8_5, pl_12_3, pl_13_1, pl_13_11, pl_15_6, pl_16_8, pl_17_4, pl_19_5, pl_19_12, pl_24_5, pl_24_12, pl_26_1, pl_27_2, pl_28_3, pl_30_3, pl_33_2, lp, hty, hpl, g0, g2, g3, g4, hil, hc] at hx
      exact ⟨_, hx.symm, by simp [T.get_set_ite, g0], by simp [T.get_set_ite, g2]⟩
  | k + 1, [], i, n, tm, h, x, hx, hd, hi, hk, hn0, hn, g0, g2, g3, g4 => by
    have hlen := dnil hd hi
    have hil := prs_len ps
    rw [hlen] at hil
    obtain ⟨R, hR, hx⟩ := loop_step hx
    simp [b8_0, loopOf, Try.f8, loops, cdL_seq, cdL_region, cdL_drawn, cdL_cond, cdL_block, cdL_skip, cdL_label, cdL_exit, cdL_ret, endL, evSeq, evOne, evAct, evOp, opKind, evPure, evRead, evNew, evWrite, evSlice, natOf, optVal, readAt, AV.cells, wantedA, putTm, val, allVals, evBin, evInt, evStr, evAppend, denseFrom, sizesAre, onesIn, evPlan, recheck, AV.beq_refl, H.new, H.put, fillF, fillAt, allOne, AV.one, setArgs, evRes, resOf, ofVal, ofVal0, blt_dec, ble_dec, beq_dec, T.get_set_ite, T.get_e, isShift, ikBeq, ty_0, ty_1, ty_2, ty_3, ty_4, ty_5, ty_6, ty_7, ty_8, ty_9, ty_10, ty_11, ty_12, ty_13, ty_14, ty_15, ty_16, ty_17, ty_18, ty_19, ty_20, ty_21, ty_22, ty_23, ty_24, ty_25, ty_26, ty_27, ty_28, ty_29, ty_30, ty_31, ty_32, ty_33, ty_34, ty_35, ty_36, ty_37, ty_38, ty_39, ty_40, ty_41, ty_42, ty_43, ty_44, ty_45, ty_46, ty_47, ty_48, ty_49, ty_50, ty_51, ty_52, ty_53, ty_54, ty_55, ty_56, ty_57, ty_58, ty_59, ty_60, ty_61, ty_62, ty_63, ty_64, ty_65, ty_66, ty_67, ty_68, ty_69, ty_70, ty_71, ty_72, ty_73, ty_74, ty_75, ty_76, ty_77, ty_78, pl_3_7, pl_3_12, pl_3_14, pl_3_15, pl_3_17, pl_4_12, pl_5_7, pl_6_16, pl_6_21, pl_7_3, pl_7_7, pl_8_5, pl_12_3, pl_13_1, pl_13_11, pl_15_6, pl_16_8, pl_17_4, pl_19_5, pl_19_12, pl_24_5, pl_24_12, pl_26_1, pl_27_2, pl_28_3, pl_30_3, pl_33_2, lp, hty, hpl, g0, g2, g3, g4, hil, ltI_f] at hx
    exact ⟨_, by simpa [mayG] using hx.symm, by simp [T.get_set_ite, g0], by simp [T.get_set_ite, g2]⟩
  | k + 1, (a, b) :: l, i, n, tm, h, x, hx, hd, hi, hk, hn0, hn, g0, g2, g3, g4 => by
    obtain ⟨hlt, hct, hd'⟩ := dcons hd
    have hil := prs_len ps
    have hat := prs_get hct
    have hlt' := ltI_t hlt
    have hl20 : ltI ↑i 20 = true := ltI_t (b := 20) (by omega)
    have hw := wr_succ (i := i) (by omega)
    have hfab := hf (a, b) (List.mem_of_getElem? hct)
    have k9a := fun h => c9 (E := E) h9 a 100 hfab.1 (by omega) h
    have k9b := fun h => c9 (E := E) h9 b 100 hfab.2 (by omega) h
    have k10a := fun h => prim1_call (E := E) (f := 10) (a := a) (F := isF) (q := fit) h10 (Enc.bare 0 a) hfab.1 h
    have k10b := fun h => prim1_call (E := E) (f := 10) (a := b) (F := isF) (q := fit) h10 (Enc.bare 0 b) hfab.2 h
    have ba := szF_le a 100
    have bb := szF_le b 100
    have w1 : wr .i64 (n + szF a 100) = n + szF a 100 := wr_add (by omega) (by omega)
    have w2 : wr .i64 (n + szF a 100 + szF b 100) = n + szF a 100 + szF b 100 := wr_add (by omega) (by omega)
    simp only [show ∀ t : Ty, (Enc.enc t : AV) = t.av from fun _ => rfl, show ∀ b : Bool, (Enc.enc b : AV) = .bool b from fun _ => rfl] at k10a k10b
    obtain ⟨a0, a1, a2, ha⟩ := av_cells a
    obtain ⟨b0, b1, b2, hb⟩ := av_cells b
    simp only [prAV] at hat
    rw [ha, hb] at hat
    rw [ha] at k9a k10a
    rw [hb] at k9b k10b
    simp only [AV.cells, List.cons_append, List.nil_append] at hat
    obtain ⟨R, hR, hx⟩ := loop_step hx
    simp only [mayG]
    cases e1 : ltI 60 (n + szF a 100 + szF b 100) with
    | true =>
      simp [b8_0, loopOf, Try.f8, loops, cdL_seq, cdL_region, cdL_drawn, cdL_cond, cdL_block, cdL_skip, cdL_label, cdL_exit, cdL_ret, endL, evSeq, evOne, evAct, evOp, opKind, evPure, evRead, evNew, evWrite, evSlice, natOf, optVal, readAt, AV.cells, wantedA, putTm, val, allVals, evBin, evInt, evStr, evAppend, denseFrom, sizesAre, onesIn, evPlan, recheck, AV.beq_refl, H.new, H.put, fillF, fillAt, allOne, AV.one, setArgs, evRes, resOf, ofVal, ofVal0, blt_dec, ble_dec, beq_dec, T.get_set_ite, T.get_e, isShift, ikBeq, ty_0, ty_1, ty_2, ty_3, ty_4, ty_5, ty_6, ty_7, ty_8, ty_9, ty_10, ty_11, ty_12, ty_13, ty_14, ty_15, ty_16, ty_17, ty_18, ty_19, ty_20, ty_21, ty_22, ty_23, ty_24, ty_25, ty_26, ty_27, ty_28, ty_29, ty_30, ty_31, ty_32, ty_33, ty_34, ty_35, ty_36, ty_37, ty_38, ty_39, ty_40, ty_41, ty_42, ty_43, ty_44, ty_45, ty_46, ty_47, ty_48, ty_49, ty_50, ty_51, ty_52, ty_53, ty_54, ty_55, ty_56, ty_57, ty_58, ty_59, ty_60, ty_61, ty_62, ty_63, ty_64, ty_65, ty_66, ty_67, ty_68, ty_69, ty_70, ty_71, ty_72, ty_73, ty_74, ty_75, ty_76, ty_77, ty_78, pl_3_7, pl_3_12, pl_3_14, pl_3_15, pl_3_17, pl_4_12, pl_5_7, pl_6_16, pl_6_21, pl_7_3, pl_7_7, pl_8_5, pl_12_3, pl_13_1, pl_13_11, pl_15_6, pl_16_8, pl_17_4, pl_19_5, pl_19_12, pl_24_5, pl_24_12, pl_26_1, pl_27_2, pl_28_3, pl_30_3, pl_33_2, lp, hty, hpl, g0, g2, g3, g4, hil, hlt', hl20, hat, k9a, k9b, w1, w2, e1] at hx
      exact ⟨_, by simpa using hx.symm, by simp [T.get_set_ite, g0], by simp [T.get_set_ite]⟩
    | false =>
      cases e2 : isF a with
      | false =>
        simp [b8_0, loopOf, Try.f8, loops, cdL_seq, cdL_region, cdL_drawn, cdL_cond, cdL_block, cdL_skip, cdL_label, cdL_exit, cdL_ret, endL, evSeq, evOne, evAct, evOp, opKind, evPure, evRead, evNew, evWrite, evSlice, natOf, optVal, readAt, AV.cells, wantedA, putTm, val, allVals, evBin, evInt, evStr, evAppend, denseFrom, sizesAre, onesIn, evPlan, recheck, AV.beq_refl, H.new, H.put, fillF, fillAt, allOne, AV.one, setArgs, evRes, resOf, ofVal, ofVal0, blt_dec, ble_dec, beq_dec, T.get_set_ite, T.get_e, isShift, ikBeq, ty_0, ty_1, ty_2, ty_3, ty_4, ty_5, ty_6, ty_7, ty_8, ty_9, ty_10, ty_11, ty_12, ty_13, ty_14, ty_15, ty_16, ty_17, ty_18, ty_19, ty_20, ty_21, ty_22, ty_23, ty_24, ty_25, ty_26, ty_27, ty_28, ty_29, ty_30, ty_31, ty_32, ty_33, ty_34, ty_35, ty_36, ty_37, ty_38, ty_39, ty_40, ty_41, ty_42, ty_43, ty_44, ty_45, ty_46, ty_47, ty_48, ty_49, ty_50, ty_51, ty_52, ty_53, ty_54, ty_55, ty_56, ty_57, ty_58, ty_59, ty_60, ty_61, ty_62, ty_63, ty_64, ty_65, ty_66, ty_67, ty_68, ty_69, ty_70, ty_71, ty_72, ty_73, ty_74, ty_75, ty_76, ty_77, ty_78, pl_3_7, pl_3_12, pl_3_14, pl_3_15, pl_3_17, pl_4_12, pl_5_7, pl_6_16, pl_6_21, pl_7_3, pl_7_7, pl_8_5, pl_12_3, pl_13_1, pl_13_11, pl_15_6, pl_16_8, pl_17_4, pl_19_5, pl_19_12, pl_24_5, pl_24_12, pl_26_1, pl_27_2, pl_28_3, pl_30_3, pl_33_2, lp, hty, hpl, g0, g2, g3, g4, hil, hlt', hl20, hat, k9a, k9b, k10a, w1, w2, e1, e2] at hx
        exact ⟨_, by simpa using hx.symm, by simp [T.get_set_ite, g0], by simp [T.get_set_ite]⟩
      | true =>
        cases e3 : isF b with
        | false =>
          simp [b8_0, loopOf, Try.f8, loops, cdL_seq, cdL_region, cdL_drawn, cdL_cond, cdL_block, cdL_skip, cdL_label, cdL_exit, cdL_ret, endL, evSeq, evOne, evAct, evOp, opKind, evPure, evRead, evNew, evWrite, evSlice, natOf, optVal, readAt, AV.cells, wantedA, putTm, val, allVals, evBin, evInt, evStr, evAppend, denseFrom, sizesAre, onesIn, evPlan, recheck, AV.beq_refl, H.new, H.put, fillF, fillAt, allOne, AV.one, setArgs, evRes, resOf, ofVal, ofVal0, blt_dec, ble_dec, beq_dec, T.get_set_ite, T.get_e, isShift, ikBeq, ty_0, ty_1, ty_2, ty_3, ty_4, ty_5, ty_6, ty_7, ty_8, ty_9, ty_10, ty_11, ty_12, ty_13, ty_14, ty_15, ty_16, ty_17, ty_18, ty_19, ty_20, ty_21, ty_22, ty_23, ty_24, ty_25, ty_26, ty_27, ty_28, ty_29, ty_30, ty_31, ty_32, ty_33, ty_34, ty_35, ty_36, ty_37, ty_38, ty_39, ty_40, ty_41, ty_42, ty_43, ty_44, ty_45, ty_46, ty_47, ty_48, ty_49, ty_50, ty_51, ty_52, ty_53, ty_54, ty_55, ty_56, ty_57, ty_58, ty_59, ty_60, ty_61, ty_62, ty_63, ty_64, ty_65, ty_66, ty_67, ty_68, ty_69, ty_70, ty_71, ty_72, ty_73, ty_74, ty_75, ty_76, ty_77, ty_78, pl_3_7, pl_3_12, pl_3_14, pl_3_15, pl_3_17, pl_4_12, pl_5_7, pl_6_16, pl_6_21, pl_7_3, pl_7_7, pl_8_5, pl_12_3, pl_13_1, pl_13_11, pl_15_6, pl_16_8, pl_17_4, pl_19_5, pl_19_12, pl_24_5, pl_24_12, pl_26_1, pl_27_2, pl_28_3, pl_30_3, pl_33_2, lp, hty, hpl, g0, g2, g3, g4, hil, hlt', hl20, hat, k9a, k9b, k10a, k10b, w1, w2, e1, e2, e3] at hx
          exact ⟨_, by simpa using hx.symm, by simp [T.get_set_ite, g0], by simp [T.get_set_ite]⟩
        | true =>
          simp [b8_0, loopOf, Try.f8, loops, cdL_seq, cdL_region, cdL_drawn, cdL_cond, cdL_block, cdL_skip, cdL_label, cdL_exit, cdL_ret, endL, evSeq, evOne, evAct, evOp, opKind, evPure, evRead, evNew, evWrite, evSlice, natOf, optVal, readAt, AV.cells, wantedA, putTm, val, allVals, evBin, evInt, evStr, evAppend, denseFrom, sizesAre, onesIn, evPlan, recheck, AV.beq_refl, H.new, H.put, fillF, fillAt, allOne, AV.one, setArgs, evRes, resOf, ofVal, ofVal0, blt_dec, ble_dec, beq_dec, T.get_set_ite, T.get_e, isShift, ikBeq, ty_0, ty_1, ty_2, ty_3, ty_4, ty_5, ty_6, ty_7, ty_8, ty_9, ty_10, ty_11, ty_12, ty_13, ty_14, ty_15, ty_16, ty_17, ty_18, ty_19, ty_20, ty_21, ty_22, ty_23, ty_24, ty_25, ty_26, ty_27, ty_28, ty_29, ty_30, ty_31, ty_32, ty_33, ty_34, ty_35, ty_36, ty_37, ty_38, ty_39, ty_40, ty_41, ty_42, ty_43, ty_44, ty_45, ty_46, ty_47, ty_48, ty_49, ty_50, ty_51, ty_52, ty_53, ty_54, ty_55, ty_56, ty_57, ty_58, ty_59, ty_60, ty_61, ty_62, ty_63, ty_64, ty_65, ty_66, ty_67, ty_68, ty_69, ty_70, ty_71, ty_72, ty_73, ty_74, ty_75, ty_76, ty_77, ty_78, pl_3_7, pl_3_12, pl_3_14, pl_3_15, pl_3_17, pl_4_12, pl_5_7, pl_6_16, pl_6_21, pl_7_3, pl_7_7, pl_8_5, pl_12_3, pl_13_1, pl_13_11, pl_15_6, pl_16_8, pl_17_4, pl_19_5, pl_19_12, pl_24_5, pl_24_12, pl_26_1, pl_27_2, pl_28_3, pl_30_3, pl_33_2, lp, hty, hpl, g0, g2, g3, g4, hil, hlt', hl20, hat, k9a, k9b, k10a, k10b, w1, w2, e1, e2, e3, hw] at hx
          rw [hR] at hx
          have hn' : n + szF a 100 + szF b 100 ≤ 60 := by rw [ltI_eq] at e1; simpa using e1
          simp only [Bool.not_false, Bool.true_and]
          exact loop8 hty hpl h9 h10 hl hf k l (i + 1) (n + szF a 100 + szF b 100) hx hd' hlt (by omega) (by omega) hn' (by simp [T.get_set_ite, g0]) (by simp [T.get_set_ite, g2]) (by simp [T.get_set_ite]) (by simp [T.get_set_ite])
theorem may_run {E : Env} (hty : E.ty = env.ty) (hpl : E.plan = env.plan) (hp : E.prim 8 = none) (hfn : E.fns 8 = some Try.f8) (h9 : E.prim 9 = some p9) (h10 : E.prim 10 = some p10) {ps : List (Ty × Ty)} (hl : ps.length ≤ 9223372036854775807) (hf : ∀ p ∈ ps, fit p.1 ∧ fit p.2) (h : H) :
    evL E 8 [.sl .no (prs ps)] h = some (.bool (mayF ps), h) := by
  have hil := prs_len ps
  rw [evL_fn E hp hfn body8 _ _ rfl]
  simp only [codeAt, sub, Try.f8]
  simp [cdL_seq, cdL_region, cdL_drawn, cdL_cond, cdL_block, cdL_skip, cdL_label, cdL_exit, cdL_ret, endL, evSeq, evOne, evAct, evOp, opKind, evPure, evRead, evNew, evWrite, evSlice, natOf, optVal, readAt, AV.cells, wantedA, putTm, val, allVals, evBin, evInt, evStr, evAppend, denseFrom, sizesAre, onesIn, evPlan, recheck, AV.beq_refl, H.new, H.put, fillF, fillAt, allOne, AV.one, setArgs, evRes, resOf, ofVal, ofVal0, blt_dec, ble_dec, beq_dec, T.get_set_ite, T.get_e, isShift, ikBeq, ty_0, ty_1, ty_2, ty_3, ty_4, ty_5, ty_6, ty_7, ty_8, ty_9, ty_10, ty_11, ty_12, ty_13, ty_14, ty_15, ty_16, ty_17, ty_18, ty_19, ty_20, ty_21, ty_22, ty_23, ty_24, ty_25, ty_26, ty_27, ty_28, ty_29, ty_30, ty_31, ty_32, ty_33, ty_34, ty_35, ty_36, ty_37, ty_38, ty_39, ty_40, ty_41, ty_42, ty_43, ty_44, ty_45, ty_46, ty_47, ty_48, ty_49, ty_50, ty_51, ty_52, ty_53, ty_54, ty_55, ty_56, ty_57, ty_58, ty_59, ty_60, ty_61, ty_62, ty_63, ty_64, ty_65, ty_66, ty_67, ty_68, ty_69, ty_70, ty_71, ty_72, ty_73, ty_74, ty_75, ty_76, ty_77, ty_78, pl_3_7, pl_3_12, pl_3_14, pl_3_15, pl_3_17, pl_4_12, pl_5_7, pl_6_16, pl_6_21, pl_7_3, pl_7_7, pl_8_5, pl_12_3, pl_13_1, pl_13_11, pl_15_6, pl_16_8, pl_17_4, pl_19_5, pl_19_12, pl_24_5, pl_24_12, pl_26_1, pl_27_2, pl_28_3, pl_30_3, pl_33_2, hty, hpl]
  generalize hx : cdL E 8 53 (.loop b8_0) _ _ = x
  obtain ⟨tm', res, g0, g2⟩ := loop8 hty hpl h9 h10 hl hf 20 ps 0 0 hx rfl (Nat.zero_le _) rfl (by omega) (by omega) (by simp [T.get_set_ite]) (by simp [T.get_set_ite]) (by simp [T.get_set_ite]) (by simp [T.get_set_ite])
  unfold mayF
  cases hm : mayG 20 ps 0 with
  | true =>
    rw [hm] at res
    simp only [cond_true] at res
    subst res
    simp [cdL_seq, cdL_region, cdL_drawn, cdL_cond, cdL_block, cdL_skip, cdL_label, cdL_exit, cdL_ret, endL, evSeq, evOne, evAct, evOp, opKind, evPure, evRead, evNew, evWrite, evSlice, natOf, optVal, readAt, AV.cells, wantedA, putTm, val, allVals, evBin, evInt, evStr, evAppend, denseFrom, sizesAre, onesIn, evPlan, recheck, AV.beq_refl, H.new, H.put, fillF, fillAt, allOne, AV.one, setArgs, evRes, resOf, ofVal, ofVal0, blt_dec, ble_dec, beq_dec, T.get_set_ite, T.get_e, isShift, ikBeq, ty_0, ty_1, ty_2, ty_3, ty_4, ty_5, ty_6, ty_7, ty_8, ty_9, ty_10, ty_11, ty_12, ty_13, ty_14, ty_15, ty_16, ty_17, ty_18, ty_19, ty_20, ty_21, ty_22, ty_23, ty_24, ty_25, ty_26, ty_27, ty_28, ty_29, ty_30, ty_31, ty_32, ty_33, ty_34, ty_35, ty_36, ty_37, ty_38, ty_39, ty_40, ty_41, ty_42, ty_43, ty_44, ty_45, ty_46, ty_47, ty_48, ty_49, ty_50, ty_51, ty_52, ty_53, ty_54, ty_55, ty_56, ty_57, ty_58, ty_59, ty_60, ty_61, ty_62, ty_63, ty_64, ty_65, ty_66, ty_67, ty_68, ty_69, ty_70, ty_71, ty_72, ty_73, ty_74, ty_75, ty_76, ty_77, ty_78, pl_3_7, pl_3_12, pl_3_14, pl_3_15, pl_3_17, pl_4_12, pl_5_7, pl_6_16, pl_6_21, pl_7_3, pl_7_7, pl_8_5, pl_12_3, pl_13_1, pl_13_11, pl_15_6, pl_16_8, pl_17_4, pl_19_5, pl_19_12, pl_24_5, pl_24_12, pl_26_1, pl_27_2, pl_28_3, pl_30_3, pl_33_2, hty, hpl, g0, g2, hil]
  | false =>
    rw [hm] at res
    simp only [cond_false] at res
    subst res
    simp [cdL_seq, cdL_region, cdL_drawn, cdL_cond, cdL_block, cdL_skip, cdL_label, cdL_exit, cdL_ret, endL, evSeq, evOne, evAct, evOp, opKind, evPure, evRead, evNew, evWrite, evSlice, natOf, optVal, readAt, AV.cells, wantedA, putTm, val, allVals, evBin, evInt, evStr, evAppend, denseFrom, sizesAre, onesIn, evPlan, recheck, AV.beq_refl, H.new, H.put, fillF, fillAt, allOne, AV.one, setArgs, evRes, resOf, ofVal, ofVal0, blt_dec, ble_dec, beq_dec, T.get_set_ite, T.get_e, isShift, ikBeq, ty_0, ty_1, ty_2, ty_3, ty_4, ty_5, ty_6, ty_7, ty_8, ty_9, ty_10, ty_11, ty_12, ty_13, ty_14, ty_15, ty_16, ty_17, ty_18, ty_19, ty_20, ty_21, ty_22, ty_23, ty_24, ty_25, ty_26, ty_27, ty_28, ty_29, ty_30, ty_31, ty_32, ty_33, ty_34, ty_35, ty_36, ty_37, ty_38, ty_39, ty_40, ty_41, ty_42, ty_43, ty_44, ty_45, ty_46, ty_47, ty_48, ty_49, ty_50, ty_51, ty_52, ty_53, ty_54, ty_55, ty_56, ty_57, ty_58, ty_59, ty_60, ty_61, ty_62, ty_63, ty_64, ty_65, ty_66, ty_67, ty_68, ty_69, ty_70, ty_71, ty_72, ty_73, ty_74, ty_75, ty_76, ty_77, ty_78, pl_3_7, pl_3_12, pl_3_14, pl_3_15, pl_3_17, pl_4_12, pl_5_7, pl_6_16, pl_6_21, pl_7_3, pl_7_7, pl_8_5, pl_12_3, pl_13_1, pl_13_11, pl_15_6, pl_16_8, pl_17_4, pl_19_5, pl_19_12, pl_24_5, pl_24_12, pl_26_1, pl_27_2, pl_28_3, pl_30_3, pl_33_2, hty, hpl, g0, g2, hil]
end Go.Proofs.Ytiifjjcoepgobaa.Env
/- What the law UnifyMakes looks at: plain facts. -/
set_option autoImplicit false
set_option maxRecDepth 100000
set_option linter.unusedSimpArgs false
set_option linter.unusedVariables false
set_option linter.unusedSectionVars false
namespace Go.Proofs.Ytiifjjcoepgobaa.Env
open Go.Ev

def psz : List (Ty × Ty) → Nat
  | [] => 0
  | p :: l => size p.1 + size p.2 + psz l
theorem mayG_ok : ∀ (k : Nat) (l : List (Ty × Ty)) (n : Int), mayG k l n = true → l.length ≤ k → 0 ≤ n → n ≤ 60 → (∀ p ∈ l, isF p.1 = true ∧ isF p.2 = true) ∧ n + ↑(psz l) ≤ 60
  | _, [], n, _, _, _, h => ⟨fun p hp => by simp at hp, by simp [psz]; omega⟩
  | 0, _ :: _, n, _, h, _, _ => by simp at h
  | k + 1, (a, b) :: l, n, h, hl, h0, h1 => by
    simp only [mayG, Bool.and_eq_true, Bool.not_eq_true'] at h
    obtain ⟨e1, e2, e3, e4⟩ := h
    have hn' : n + szF a 100 + szF b 100 ≤ 60 := by rw [ltI_eq] at e1; simpa using e1
    have ba := szF_le a 100
    have bb := szF_le b 100
    have sa := szF_size a 100 (by omega)
    have sb := szF_size b 100 (by omega)
    obtain ⟨k1, k2⟩ := mayG_ok k l _ e4 (by simpa using hl) (by omega) hn'
    refine ⟨fun p hp => ?_, ?_⟩
    · rcases List.mem_cons.1 hp with rfl | hp
      · exact ⟨e2, e3⟩
      · exact k1 p hp
    · simp only [psz]
      omega
theorem isF_each {t : Ty} (h : isF t = true) : eachF t = true := by simp [isF] at h; exact h.2
theorem size_all : ∀ (l : List (Ty × Ty)) (t : Ty), size (allF l t) = size t + psz l + 2 * l.length
  | [], t => by simp [allF, psz]
  | (a, b) :: l, t => by
    simp only [allF, size_all l, size, sizes, psz, List.length_cons]
    omega
theorem kids_pair : kidsF pairS = 2 := by decide
theorem okT_pair {a b : Ty} (ha : okT a) (hb : okT b) : okT (.mk pairS 0 [a, b]) := by
  refine ⟨?_, ?_⟩
  · simp only [eachF, eachL, kids_pair, ha.1, hb.1]; rfl
  · simp only [fit, fits]; exact ⟨by simp, by omega, ha.2, hb.2, trivial⟩
theorem okT_all : ∀ (l : List (Ty × Ty)) (t : Ty), okT t → (∀ p ∈ l, okT p.1 ∧ okT p.2) → okT (allF l t)
  | [], t, h, _ => h
  | (a, b) :: l, t, h, hl => by
    have := hl (a, b) (List.mem_cons_self ..)
    exact okT_all l _ (okT_pair h (okT_pair this.1 this.2)) fun p hp => hl p (List.mem_cons_of_mem _ hp)
theorem pair_nv : natsBeq pairS varS = false := by decide
theorem occ_all (n : Int) : ∀ (l : List (Ty × Ty)) (t : Ty), (occF n t = true ∨ ∃ p ∈ l, occF n p.1 = true ∨ occF n p.2 = true) → occF n (allF l t) = true
  | [], t, h => by
    rcases h with h | ⟨p, hp, _⟩
    · exact h
    · simp at hp
  | (a, b) :: l, t, h => by
    simp only [allF]
    refine occ_all n l _ ?_
    simp only [occF, pair_nv, cond_false, occL, Bool.or_false]
    rcases h with h | ⟨p, hp, hh⟩
    · exact .inl (by simp [h])
    · rcases List.mem_cons.1 hp with rfl | hp
      · refine .inl ?_
        rcases hh with hh | hh <;> simp at hh <;> simp [hh]
      · exact .inr ⟨p, hp, hh⟩
/-- What the two states say of any type. -/
def Tot (sd S : Sd) : Prop := ∀ t, okT t → ∃ u, Ro sd t u ∧ Ro S t u
theorem Tot.ext {L : List Int} {sd S sd' S' : Sd} {σ : Ty → Ty} (h : Tot sd S) (x : Ext L sd S sd' S' σ) : Tot sd' S' := fun t ht => by
  obtain ⟨u, h1, h2⟩ := h t ht
  exact ⟨σ u, x.p t u h1, x.q t u h2⟩
theorem tot_nil : Tot [] [] := fun t _ => ⟨t, ro_self fun n _ => rfl, ro_self fun n _ => rfl⟩
theorem st_nil : St [] [] := ⟨fun p hp => by simp at hp, fun p hp => by simp at hp, fun n => Iff.rfl⟩
theorem rv_nil {L : List Int} (h : L.length ≤ 1000) : RV L [] := ⟨fun p hp => by simp at hp, fun p hp => by simp at hp, by simp, h⟩
theorem Rows.nil (h : H) : Rows h .full .full [] := .inl ⟨rfl, rfl, rfl⟩
theorem norm_fit {t : Ty} (h : okT t) (hl : (varsF t []).length ≤ 1000) : fit (normF t) := put_fit (fun u hu => by
  unfold vs at hu
  obtain ⟨i, hi, rfl⟩ := List.mem_map.1 hu
  have := List.mem_range.1 hi
  simp [fit, fits]; omega) h.2
noncomputable def envU : Env := addPrim (addPrim (addPrim envL 23 p23b) 19 p19) 18 p18
theorem envU_ok : EnvOk Try.prog envU := addPrim_ok (addPrim_ok (addPrim_ok envL_ok p23b_ok) p19_ok) p18_ok
theorem eUty : envU.ty = env.ty := rfl
theorem eUpl : envU.plan = env.plan := rfl
theorem cU15 {x y : AV} {a b : Ty} (hx : x.wk 0 a.av) (hy : y.wk 0 b.av) (ha : fit a) (hb : fit b) (h : H) : evL envU 15 [x, y] h = some (.bool (sameF a b), h) :=
  prim2_call (a := a) (b := b) (F := sameF) (q := fun a b => fit a ∧ fit b) (by kernel_rfl) hx hy ⟨ha, hb⟩ h
theorem cU10 (t : Ty) (hf : fit t) (h : H) : evL envU 10 [t.av] h = some (.bool (isF t), h) :=
  prim1_call (a := t) (F := isF) (q := fit) (by kernel_rfl) (Enc.bare 0 t) hf h
theorem cU14 (h : H) : evL envU 14 [] h = some (.bool true, h) := by
  rw [evL_prim envU (f := 14) (p := primBool true) (by kernel_rfl)]; rfl
theorem newU_run (h : H) : evL envU 11 [] h = some (.ptr (some (h.nx + 1, 0)), ⟨(h.t.set h.nx (.map [])).set (h.nx + 1) (.cells [.map (some h.nx), .int .i64 0]), h.nx + 1 + 1⟩) := by
  rw [evL_fn envU (fn := Try.f11) (by kernel_rfl) (by kernel_rfl) rfl _ _ rfl]
  simp only [Try.f11]
  simp [cdL_seq, cdL_region, cdL_drawn, cdL_cond, cdL_block, cdL_skip, cdL_label, cdL_exit, cdL_ret, endL, evSeq, evOne, evAct, evOp, opKind, evPure, evRead, evNew, evWrite, evSlice, natOf, optVal, readAt, AV.cells, wantedA, putTm, val, allVals, evBin, evInt, evStr, evAppend, denseFrom, sizesAre, onesIn, evPlan, recheck, AV.beq_refl, H.new, H.put, fillF, fillAt, allOne, AV.one, setArgs, evRes, resOf, ofVal, ofVal0, blt_dec, ble_dec, beq_dec, T.get_set_ite, T.get_e, isShift, ikBeq, ty_0, ty_1, ty_2, ty_3, ty_4, ty_5, ty_6, ty_7, ty_8, ty_9, ty_10, ty_11, ty_12, ty_13, ty_14, ty_15, ty_16, ty_17, ty_18, ty_19, ty_20, ty_21, ty_22, ty_23, ty_24, ty_25, ty_26, ty_27, ty_28, ty_29, ty_30, ty_31, ty_32, ty_33, ty_34, ty_35, ty_36, ty_37, ty_38, ty_39, ty_40, ty_41, ty_42, ty_43, ty_44, ty_45, ty_46, ty_47, ty_48, ty_49, ty_50, ty_51, ty_52, ty_53, ty_54, ty_55, ty_56, ty_57, ty_58, ty_59, ty_60, ty_61, ty_62, ty_63, ty_64, ty_65, ty_66, ty_67, ty_68, ty_69, ty_70, ty_71, ty_72, ty_73, ty_74, ty_75, ty_76, ty_77, ty_78, pl_3_7, pl_3_12, pl_3_14, pl_3_15, pl_3_17, pl_4_12, pl_5_7, pl_6_16, pl_6_21, pl_7_3, pl_7_7, pl_8_5, pl_12_3, pl_13_1, pl_13_11, pl_15_6, pl_16_8, pl_17_4, pl_19_5, pl_19_12, pl_24_5, pl_24_12, pl_26_1, pl_27_2, pl_28_3, pl_30_3, pl_33_2, eUty, eUpl]
theorem uU13 : ∀ d, Uni13 envU d := uni13_run eUty eUpl (by kernel_rfl) (by kernel_rfl) (by kernel_rfl) (say_run eUty eUpl (by kernel_rfl) (by kernel_rfl) (by kernel_rfl) (by kernel_rfl))
theorem Rows.put {h : H} {o1 o2 : Own} {S : Sd} (a : Rows h o1 o2 S) {m : Nat} {es es' : List (AV × AV)} (hm : h.t.get m = some (.map es)) : Rows (h.put m (.map es')) o1 o2 S := by
  rcases a with a | ⟨i1, i2, h1, h2, h3, h4, h5, h6⟩
  · exact .inl a
  · have n1 : i1 ≠ m := by rintro rfl; rw [hm] at h3; cases h3
    have n2 : i2 ≠ m := by rintro rfl; rw [hm] at h4; cases h4
    exact .inr ⟨i1, i2, h1, h2, by simp [H.put, T.get_set_ite, n1, h3], by simp [H.put, T.get_set_ite, n2, h4], h5, h6⟩
theorem RSt.put {h : H} {s : Nat} {o1 o2 : Own} {S : Sd} (a : RSt h s o1 o2 S) {m : Nat} {es es' : List (AV × AV)} (hm : h.t.get m = some (.map es)) : RSt (h.put m (.map es')) s o1 o2 S := by
  have n1 : s ≠ m := by rintro rfl; rw [a.cs] at hm; cases hm
  exact ⟨by simp [H.put, T.get_set_ite, n1, a.cs], a.hs⟩
theorem Rows.nem {h : H} {o1 o2 : Own} {S : Sd} (a : Rows h o1 o2 S) {j : Nat} {es : List (AV × AV)} (hj : h.t.get j = some (.map es)) : o1 ≠ .ch j ∧ o2 ≠ .ch j := by
  rcases a with ⟨rfl, rfl, _⟩ | ⟨i1, i2, rfl, rfl, h1, h2, _, _⟩
  · exact ⟨by simp, by simp⟩
  · constructor
    · rintro ⟨⟩; rw [hj] at h1; cases h1
    · rintro ⟨⟩; rw [hj] at h2; cases h2
theorem Stp.psub {h h' : H} {s s1 m1 : Nat} {nx : Int} {o1 o2 o1' o2' : Own} {S sd : Sd} (a : Stp h h' s o1 o2 o1' o2') (r : Rows h o1 o2 S) (rs : RSt h s o1 o2 S) (p : PSub h s1 m1 nx sd) (hs : s1 ≠ s) : PSub h' s1 m1 nx sd := by
  have hm : m1 ≠ s := by
    rintro rfl
    have := p.cm
    rw [rs.cs] at this
    cases this
  obtain ⟨q1, q2⟩ := r.ne p.cs
  obtain ⟨q3, q4⟩ := r.nem p.cm
  exact p.mono a.nx (a.fr s1 p.hs hs q1 q2) (a.fr m1 p.hm hm q3 q4)
end Go.Proofs.Ytiifjjcoepgobaa.Env
/- The law UnifyMakes on the machine: one pair after the other. -/
set_option autoImplicit false
set_option maxRecDepth 100000
set_option linter.unusedSimpArgs false
set_option linter.unusedVariables false
set_option linter.unusedSectionVars false
namespace Go.Proofs.Ytiifjjcoepgobaa.Env
open Go.Ev

noncomputable def b3_0 : Code := loopOf Try.f3 0
theorem body3 : Try.f3.body = some (.seq (codeAt Try.f3 [0]) (.seq (codeAt Try.f3 [1, 0]) (.seq (codeAt Try.f3 [1, 1, 0]) (.seq (.seq (codeAt Try.f3 [1, 1, 1, 0, 0]) (.block 0 (.loop b3_0))) (codeAt Try.f3 [1, 1, 1, 1]))))) := rfl
structure R3 (L : List Int) (ps : List (Ty × Ty)) (t : Ty) (s1 m1 sR b3 : Nat) (sd S : Sd) (o1 o2 : Own) (tm : Tm) (h : H) : Prop where
  g0 : tm.get 0 = some (.sl .no (prs ps))
  g3 : tm.get 3 = some (.ptr (some (b3, 0)))
  g5 : tm.get 5 = some (.ptr (some (s1, 0)))
  g6 : tm.get 6 = some (.ptr (some (sR, 0)))
  z3 : h.t.get b3 = some (.cells t.av.cells)
  l3 : b3 < h.nx
  p : PSub h s1 m1 0 sd
  rs : RSt h sR o1 o2 S
  rw' : Rows h o1 o2 S
  rv : RV L S
  st : St sd S
  tot : Tot sd S
theorem loop3 {L : List Int} {ps : List (Ty × Ty)} {t : Ty} (hl : ps.length ≤ 1000) (hok : ∀ p ∈ ps, okT p.1 ∧ okT p.2) (hot : okT t) (hoL : ∀ n, occF n (allF ps t) = true → n ∈ L) {s1 m1 sR b3 : Nat} (hsR : s1 ≠ sR) (h3R : b3 ≠ sR) :
    ∀ (l : List (Ty × Ty)) (i : Nat) (sd S : Sd) (o1 o2 : Own) {tm : Tm} {h : H} {x : Option (Ex × Tm × H)}, cdL envU 3 108 (.loop b3_0) tm h = x → l = ps.drop i → i ≤ ps.length → tm.get 7 = some (.int .i64 ↑i) → R3 L ps t s1 m1 sR b3 sd S o1 o2 tm h →
    (∃ tm' h', x = some (.ret, tm', h') ∧ tm'.get 4 = some (.bool true)) ∨ ∃ tm' h' sd' S' o1' o2', x = some (.exit 0, tm', h') ∧ R3 L ps t s1 m1 sR b3 sd' S' o1' o2' tm' h'
  | [], i, sd, S, o1, o2, tm, h, x, hx, hd, hi, g7, R0 => by
    have hlen := dnil hd hi
    have hil := prs_len ps
    rw [hlen] at hil
    obtain ⟨g0, g3, g5, g6, z3, l3, hp, hrs, hrw, hrv, hst, htot⟩ := R0
    obtain ⟨R, hR, hx⟩ := loop_step hx
    simp [b3_0, loopOf, Try.f3, loops, cdL_seq, cdL_region, cdL_drawn, cdL_cond, cdL_block, cdL_skip, cdL_label, cdL_exit, cdL_ret, endL, evSeq, evOne, evAct, evOp, opKind, evPure, evRead, evNew, evWrite, evSlice, natOf, optVal, readAt, AV.cells, wantedA, putTm, val, allVals, evBin, evInt, evStr, evAppend, denseFrom, sizesAre, onesIn, evPlan, recheck, AV.beq_refl, H.new, H.put, fillF, fillAt, allOne, AV.one, setArgs, evRes, resOf, ofVal, ofVal0, blt_dec, ble_dec, beq_dec, T.get_set_ite, T.get_e, isShift, ikBeq, ty_0, ty_1, ty_2, ty_3, ty_4, ty_5, ty_6, ty_7, ty_8, ty_9, ty_10, ty_11, ty_12, ty_13, ty_14, ty_15, ty_16, ty_17, ty_18, ty_19, ty_20, ty_21, ty_22, ty_23, ty_24, ty_25, ty_26, ty_27, ty_28, ty_29, ty_30, ty_31, ty_32, ty_33, ty_34, ty_35, ty_36, ty_37, ty_38, ty_39, ty_40, ty_41, ty_42, ty_43, ty_44, ty_45, ty_46, ty_47, ty_48, ty_49, ty_50, ty_51, ty_52, ty_53, ty_54, ty_55, ty_56, ty_57, ty_58, ty_59, ty_60, ty_61, ty_62, ty_63, ty_64, ty_65, ty_66, ty_67, ty_68, ty_69, ty_70, ty_71, ty_72, ty_73, ty_74, ty_75, ty_76, ty_77, ty_78, pl_3_7, pl_3_12, pl_3_14, pl_3_15, pl_3_17, pl_4_12, pl_5_7, pl_6_16, pl_6_21, pl_7_3, pl_7_7, pl_8_5, pl_12_3, pl_13_1, pl_13_11, pl_15_6, pl_16_8, pl_17_4, pl_19_5, pl_19_12, pl_24_5, pl_24_12, pl_26_1, pl_27_2, pl_28_3, pl_30_3, pl_33_2, lp, eUty, eUpl, g0, g3, g5, g6, g7, hil, ltI_f] at hx
    exact .inr ⟨_, h, sd, S, o1, o2, hx.symm, by simp [T.get_set_ite, g0], by simp [T.get_set_ite, g3], by simp [T.get_set_ite, g5], by simp [T.get_set_ite, g6], z3, l3, hp, hrs, hrw, hrv, hst, htot⟩
  | (a, b) :: l, i, sd, S, o1, o2, tm, h, x, hx, hd, hi, g7, R0 => by
    obtain ⟨hlt, hct, hd'⟩ := dcons hd
    have hil := prs_len ps
    have hat := prs_get hct
    have hlt' := ltI_t hlt
    have hw := wr_succ (i := i) (by omega)
    have hmem := List.mem_of_getElem? hct
    obtain ⟨hoa, hob⟩ := hok (a, b) hmem
    obtain ⟨g0, g3, g5, g6, z3, l3, hp, hrs, hrw, hrv, hst, htot⟩ := R0
    -- plain: both make the two one alike
    obtain ⟨u, ra, ra2⟩ := htot a hoa
    obtain ⟨w, rb, rb2⟩ := htot b hob
    have hLa : ∀ n, occF n a = true → n ∈ L := fun n hn => hoL n (occ_all n ps t (.inr ⟨(a, b), hmem, .inl hn⟩))
    have hLb : ∀ n, occF n b = true → n ∈ L := fun n hn => hoL n (occ_all n ps t (.inr ⟨(a, b), hmem, .inr hn⟩))
    have hin : ∀ {v z : Ty}, Ro S v z → (∀ n, occF n v = true → n ∈ L) → ∀ n, occF n z = true → n ∈ L := fun ⟨f, hf⟩ hv => ro_in (fun p hp => (hrv.k p hp).2) hf hv
    obtain ⟨r, sd', S', f, g, q1, q2, q3⟩ := uni_both L (cnt L sd) (size u) (⟨hst, hoa, hob, hoa, hob, ra, rb, ra2, rb2, fun n hn => by
      rcases hn with hn | hn
      · exact hin ra2 hLa n hn
      · exact hin rb2 hLb n hn⟩ : Pre L sd S a b a b u w) (Nat.le_refl _) (Nat.le_refl _)
    -- the program's Unify
    have hga := each_good hoa.1
    have hgb := each_good hob.1
    have k12 := c12 (E := envU) (by kernel_rfl) (Ty.av_bare 0 a) (Ty.av_bare 0 b) hga hgb hp hst.o1.good q1
    have hp1 : PSub (h.put m1 (.map (esOf sd'))) s1 m1 0 sd' := by
      have n1 : s1 ≠ m1 := by rintro rfl; have := hp.cs; rw [hp.cm] at this; cases this
      exact ⟨by simp [H.put, T.get_set_ite, n1, hp.cs], by simp [H.put, T.get_set_ite], hp.hs, hp.hm⟩
    -- the reference's
    have hm3 : m1 ≠ b3 := by rintro rfl; have := hp.cm; rw [z3] at this; cases this
    have hrs1 := hrs.put (es' := esOf sd') hp.cm
    have hrw1 := hrw.put (es' := esOf sd') hp.cm
    obtain ⟨p1, p2, h2, k13, hrs2, hrw2, hrv2, stp⟩ := uU13 g L sR o1 o2 S S' a b r _ hrs1 hrw1 hrv hoa hob hLa hLb q2
    have hp2 := stp.psub hrw1 hrs1 hp1 hsR
    have z3' : (h.put m1 (.map (esOf sd'))).t.get b3 = some (.cells t.av.cells) := by simp [H.put, T.get_set_ite, hm3.symm, z3]
    have z32 := stp.cell hrw1 z3' l3 h3R
    have hnx2 := stp.nx
    obtain ⟨a0, a1, a2, hae⟩ := av_cells a
    obtain ⟨b0, b1, b2, hbe⟩ := av_cells b
    simp only [prAV] at hat
    simp only [H.put] at k13
    obtain ⟨R, hR, hx⟩ := loop_step hx
    cases r with
    | false =>
      rw [hae, hbe] at hat k12 k13
      simp only [AV.cells, List.cons_append, List.nil_append] at hat
      simp [b3_0, loopOf, Try.f3, loops, cdL_seq, cdL_region, cdL_drawn, cdL_cond, cdL_block, cdL_skip, cdL_label, cdL_exit, cdL_ret, endL, evSeq, evOne, evAct, evOp, opKind, evPure, evRead, evNew, evWrite, evSlice, natOf, optVal, readAt, AV.cells, wantedA, putTm, val, allVals, evBin, evInt, evStr, evAppend, denseFrom, sizesAre, onesIn, evPlan, recheck, AV.beq_refl, H.new, H.put, fillF, fillAt, allOne, AV.one, setArgs, evRes, resOf, ofVal, ofVal0, blt_dec, ble_dec, beq_dec, T.get_set_ite, T.get_e, isShift, ikBeq, ty_0, ty_1, ty_2, ty_3, ty_4, ty_5, ty_6, ty_7, ty_8, ty_9, ty_10, ty_11, ty_12, ty_13, ty_14, ty_15, ty_16, ty_17, ty_18, ty_19, ty_20, ty_21, ty_22, ty_23, ty_24, ty_25, ty_26, ty_27, ty_28, ty_29, ty_30, ty_31, ty_32, ty_33, ty_34, ty_35, ty_36, ty_37, ty_38, ty_39, ty_40, ty_41, ty_42, ty_43, ty_44, ty_45, ty_46, ty_47, ty_48, ty_49, ty_50, ty_51, ty_52, ty_53, ty_54, ty_55, ty_56, ty_57, ty_58, ty_59, ty_60, ty_61, ty_62, ty_63, ty_64, ty_65, ty_66, ty_67, ty_68, ty_69, ty_70, ty_71, ty_72, ty_73, ty_74, ty_75, ty_76, ty_77, ty_78, pl_3_7, pl_3_12, pl_3_14, pl_3_15, pl_3_17, pl_4_12, pl_5_7, pl_6_16, pl_6_21, pl_7_3, pl_7_7, pl_8_5, pl_12_3, pl_13_1, pl_13_11, pl_15_6, pl_16_8, pl_17_4, pl_19_5, pl_19_12, pl_24_5, pl_24_12, pl_26_1, pl_27_2, pl_28_3, pl_30_3, pl_33_2, lp, eUty, eUpl, g0, g3, g5, g6, g7, hil, hlt', hat, k12, k13, evEq, cU14] at hx
      exact .inl ⟨_, _, hx.symm, by simp [T.get_set_ite]⟩
    | true =>
      obtain ⟨σ, X, hσ⟩ := q3 rfl
      have hst' := X.st
      have htot' := htot.ext X
      have k16a := fun h1 (h2 : PSub h1 s1 m1 0 sd') v z f h3 h4 => c16 (E := envU) (h := h1) (t := v) (u := z) (d := f) (by kernel_rfl) (Ty.av_bare 0 v) h3 h2 hst'.o1.good h4
      obtain ⟨fa, e16a⟩ := (X.p a u ra).of hst'.o1 hoa
      obtain ⟨fb, e16b⟩ := (X.p b w rb).of hst'.o1 hob
      have houw := (X.p a u ra).ok hst'.o1 hoa
      have k16b := k16a h2 hp2 b _ fb hgb e16b
      have k16a' := k16a h2 hp2 a _ fa hga e16a
      rw [← hσ] at k16b
      have k15 := cU15 (Ty.av_bare 0 (σ u)) (Ty.av_bare 0 (σ u)) houw.2 houw.2 h2
      rw [sameF_iff.2 rfl] at k15
      -- all
      obtain ⟨A, hA⟩ : ∃ A, A = allF ps t := ⟨_, rfl⟩
      have hoA : okT A := by rw [hA]; exact okT_all ps t hot hok
      obtain ⟨uA, rA, rA2⟩ := htot' A hoA
      have houA := rA.ok hst'.o1 hoA
      have hLA : ∀ n, occF n uA = true → n ∈ L := by
        obtain ⟨fA, hfA⟩ := rA2
        exact ro_in (fun p hp => (hrv2.k p hp).2) hfA (fun n hn => hoL n (by rw [← hA]; exact hn))
      have hvA := vars_in houA.1 hLA hrv.l
      obtain ⟨ha, hae'⟩ : ∃ ha : H, ha = ⟨(h2.t.set h2.nx (.cells [.str [], .int .i64 0, .sl .full []])).set (h2.nx + 1) (.cells [.str [], .int .i64 0, .sl .full []]), h2.nx + 1 + 1⟩ := ⟨_, rfl⟩
      obtain ⟨h3, e17a, n3⟩ := all_run (E := envU) eUty eUpl (by kernel_rfl) (by kernel_rfl) (by kernel_rfl) hl t ha
      obtain ⟨h4, e17b, n4⟩ := all_run (E := envU) eUty eUpl (by kernel_rfl) (by kernel_rfl) (by kernel_rfl) hl t h3
      rw [← hA] at e17a e17b
      have n34 := n3.trans n4
      have hnl : h2.nx + 1 + 1 ≤ h4.nx := by have := n34.1; rw [hae'] at this; exact this
      have hnl3 : h2.nx + 1 + 1 ≤ h3.nx := by have := n3.1; rw [hae'] at this; exact this
      have l32 : b3 < h2.nx := Nat.lt_of_lt_of_le l3 hnx2
      have ez : ∀ j, j < h2.nx → ha.t.get j = h2.t.get j := fun j hj => by rw [hae']; simp only [T.get_set_ite]; rw [if_neg (by omega), if_neg (by omega)]
      have hza : ha.nx = h2.nx + 1 + 1 := by rw [hae']
      have y3 : h3.t.get b3 = some (.cells t.av.cells) := by rw [n3.2 b3 (by omega), ez b3 l32, z32]
      have y4 : h4.t.get b3 = some (.cells t.av.cells) := by rw [n34.2 b3 (by omega), ez b3 l32, z32]
      have y10 : h4.t.get h2.nx = some (.cells [.str [], .int .i64 0, .sl .full []]) := by rw [n34.2 _ (by omega), hae']; simp [T.get_set_ite]
      have y11 : h4.t.get (h2.nx + 1) = some (.cells [.str [], .int .i64 0, .sl .full []]) := by rw [n34.2 _ (by omega), hae']; simp [T.get_set_ite]
      obtain ⟨h5, h5e⟩ : ∃ h5 : H, h5 = ⟨(h4.t.set h2.nx (.cells A.av.cells)).set (h2.nx + 1) (.cells A.av.cells), h4.nx⟩ := ⟨_, rfl⟩
      have n5 : New h2 h5 := by
        rw [h5e]
        refine ⟨by simp; omega, fun j hj => ?_⟩
        simp only [T.get_set_ite]
        rw [if_neg (by omega), if_neg (by omega), n34.2 j (by omega), ez j hj]
      have hp5 := n5.psub hp2
      have hrs5 := hrs2.mono n5
      obtain ⟨fA, e16A⟩ := rA.of hst'.o1 hoA
      have k16A := k16a h5 hp5 A uA fA (each_good hoA.1) e16A
      have k19A := c19 (E := envU) (by kernel_rfl) (Ty.av_bare 0 A) (each_good hoA.1) hst'.o2.good (by have := hrv2.len; omega) hrs5 rA2
      have k18A := c18 (E := envU) (by kernel_rfl) (Ty.av_bare 0 uA) ⟨houA, hvA⟩ h5
      have fnA := norm_fit houA hvA
      have k15A := cU15 (Ty.av_bare 0 (normF uA)) (Ty.av_bare 0 (normF uA)) fnA fnA h5
      rw [sameF_iff.2 rfl] at k15A
      obtain ⟨A0, A1, A2, hAe⟩ := av_cells A
      obtain ⟨t0, t1, t2, hte⟩ := av_cells t
      obtain ⟨c0, c1', c2, hce⟩ := av_cells (σ u)
      obtain ⟨d0, d1, d2, hde⟩ := av_cells uA
      obtain ⟨f0, f1, f2, hfe⟩ := av_cells (normF uA)
      have y5 : h5.t.get b3 = some (.cells t.av.cells) := by rw [n5.2 b3 l32, z32]
      have l35 : b3 < h5.nx := Nat.lt_of_lt_of_le l32 n5.1
      have again := fun (tm : Tm) => loop3 (L := L) (t := t) (s1 := s1) (m1 := m1) (sR := sR) (b3 := b3) hl hok hot hoL hsR h3R l (i + 1) sd' S' p1 p2 (tm := tm) (h := h5) (x := x)
      have inv : ∀ tm' : Tm, tm'.get 0 = some (.sl .no (prs ps)) → tm'.get 3 = some (.ptr (some (b3, 0))) → tm'.get 5 = some (.ptr (some (s1, 0))) → tm'.get 6 = some (.ptr (some (sR, 0))) → R3 L ps t s1 m1 sR b3 sd' S' p1 p2 tm' h5 := fun tm' q0 q3 q5 q6 => ⟨q0, q3, q5, q6, y5, l35, hp5, hrs5, hrw2.mono n5, hrv2, hst', htot'⟩
      rw [hae, hbe] at hat
      rw [hae] at k12 k13 k16a'
      rw [hbe] at k12 k13 k16b
      rw [hce] at k16a' k16b k15
      rw [hAe] at e17a e17b k16A k19A h5e
      rw [hte] at e17a e17b y3 y4 z32 z3
      rw [hde] at k16A k19A k18A
      rw [hfe] at k18A k15A
      simp only [AV.cells, List.cons_append, List.nil_append] at hat y3 y4 z32 z3 h5e
      have m0 : b3 ≠ h2.nx := by omega
      have m1' : b3 ≠ h2.nx + 1 := by omega
      have m2 : h2.nx ≠ h2.nx + 1 := by omega
      subst hae'
      subst h5e
      simp [b3_0, loopOf, Try.f3, loops, cdL_seq, cdL_region, cdL_drawn, cdL_cond, cdL_block, cdL_skip, cdL_label, cdL_exit, cdL_ret, endL, evSeq, evOne, evAct, evOp, opKind, evPure, evRead, evNew, evWrite, evSlice, natOf, optVal, readAt, AV.cells, wantedA, putTm, val, allVals, evBin, evInt, evStr, evAppend, denseFrom, sizesAre, onesIn, evPlan, recheck, AV.beq_refl, H.new, H.put, fillF, fillAt, allOne, AV.one, setArgs, evRes, resOf, ofVal, ofVal0, blt_dec, ble_dec, beq_dec, T.get_set_ite, T.get_e, isShift, ikBeq, ty_0, ty_1, ty_2, ty_3, ty_4, ty_5, ty_6, ty_7, ty_8, ty_9, ty_10, ty_11, ty_12, ty_13, ty_14, ty_15, ty_16, ty_17, ty_18, ty_19, ty_20, ty_21, ty_22, ty_23, ty_24, ty_25, ty_26, ty_27, ty_28, ty_29, ty_30, ty_31, ty_32, ty_33, ty_34, ty_35, ty_36, ty_37, ty_38, ty_39, ty_40, ty_41, ty_42, ty_43, ty_44, ty_45, ty_46, ty_47, ty_48, ty_49, ty_50, ty_51, ty_52, ty_53, ty_54, ty_55, ty_56, ty_57, ty_58, ty_59, ty_60, ty_61, ty_62, ty_63, ty_64, ty_65, ty_66, ty_67, ty_68, ty_69, ty_70, ty_71, ty_72, ty_73, ty_74, ty_75, ty_76, ty_77, ty_78, pl_3_7, pl_3_12, pl_3_14, pl_3_15, pl_3_17, pl_4_12, pl_5_7, pl_6_16, pl_6_21, pl_7_3, pl_7_7, pl_8_5, pl_12_3, pl_13_1, pl_13_11, pl_15_6, pl_16_8, pl_17_4, pl_19_5, pl_19_12, pl_24_5, pl_24_12, pl_26_1, pl_27_2, pl_28_3, pl_30_3, pl_33_2, nq2, nq3, nq4, nq5, nr2, nr3, nr4, nr5, lp, eUty, eUpl, g0, g3, g5, g6, g7, hil, hlt', hat, k12, k13, evEq, k16a', k16b, k15, z32, m0, m1', e17a, e17b, y3, y4, y10, y11, k16A, k18A, k19A, k15A, m2, hw] at hx
      rw [hR] at hx
      exact again _ hx hd' hlt (by simp [T.get_set_ite]) (inv _ (by simp [T.get_set_ite, g0]) (by simp [T.get_set_ite, g3]) (by simp [T.get_set_ite, g5]) (by simp [T.get_set_ite, g6]))
end Go.Proofs.Ytiifjjcoepgobaa.Env
/- The law UnifyMakes on the machine: the whole function. -/
set_option autoImplicit false
set_option maxRecDepth 100000
set_option linter.unusedSimpArgs false
set_option linter.unusedVariables false
set_option linter.unusedSectionVars false
namespace Go.Proofs.Ytiifjjcoepgobaa.Env
open Go.Ev

theorem law3 (ps : List (Ty × Ty)) (t : Ty) (hf : fit t) (hl : ps.length ≤ 9223372036854775807) (hfp : ∀ p ∈ ps, fit p.1 ∧ fit p.2) : ∃ h', evL envU 3 [.sl .no (prs ps), t.av] ⟨.e, 0⟩ = some (.bool true, h') := by
  have k8 := fun h => may_run (E := envU) eUty eUpl (by kernel_rfl) (by kernel_rfl) (by kernel_rfl) (by kernel_rfl) hl hfp h
  have k9 := fun h => c9 (E := envU) (by kernel_rfl) t 100 hf (by omega) h
  have k10 := fun h => cU10 t hf h
  obtain ⟨t0, t1, t2, hte⟩ := av_cells t
  cases h1 : mayF ps with
  | false =>
    rw [hte] at k9 k10 ⊢
    rw [evL_fn envU (by kernel_rfl) (by kernel_rfl) body3 _ _ rfl]
    simp only [codeAt, sub, Try.f3]
    simp [cdL_seq, cdL_region, cdL_drawn, cdL_cond, cdL_block, cdL_skip, cdL_label, cdL_exit, cdL_ret, endL, evSeq, evOne, evAct, evOp, opKind, evPure, evRead, evNew, evWrite, evSlice, natOf, optVal, readAt, AV.cells, wantedA, putTm, val, allVals, evBin, evInt, evStr, evAppend, denseFrom, sizesAre, onesIn, evPlan, recheck, AV.beq_refl, H.new, H.put, fillF, fillAt, allOne, AV.one, setArgs, evRes, resOf, ofVal, ofVal0, blt_dec, ble_dec, beq_dec, T.get_set_ite, T.get_e, isShift, ikBeq, ty_0, ty_1, ty_2, ty_3, ty_4, ty_5, ty_6, ty_7, ty_8, ty_9, ty_10, ty_11, ty_12, ty_13, ty_14, ty_15, ty_16, ty_17, ty_18, ty_19, ty_20, ty_21, ty_22, ty_23, ty_24, ty_25, ty_26, ty_27, ty_28, ty_29, ty_30, ty_31, ty_32, ty_33, ty_34, ty_35, ty_36, ty_37, ty_38, ty_39, ty_40, ty_41, ty_42, ty_43, ty_44, ty_45, ty_46, ty_47, ty_48, ty_49, ty_50, ty_51, ty_52, ty_53, ty_54, ty_55, ty_56, ty_57, ty_58, ty_59, ty_60, ty_61, ty_62, ty_63, ty_64, ty_65, ty_66, ty_67, ty_68, ty_69, ty_70, ty_71, ty_72, ty_73, ty_74, ty_75, ty_76, ty_77, ty_78, pl_3_7, pl_3_12, pl_3_14, pl_3_15, pl_3_17, pl_4_12, pl_5_7, pl_6_16, pl_6_21, pl_7_3, pl_7_7, pl_8_5, pl_12_3, pl_13_1, pl_13_11, pl_15_6, pl_16_8, pl_17_4, pl_19_5, pl_19_12, pl_24_5, pl_24_12, pl_26_1, pl_27_2, pl_28_3, pl_30_3, pl_33_2, eUty, eUpl, k8, h1]
  | true =>
    cases h2 : ltI 30 (szF t 100) with
    | true =>
      rw [hte] at k9 k10 ⊢
      rw [evL_fn envU (by kernel_rfl) (by kernel_rfl) body3 _ _ rfl]
      simp only [codeAt, sub, Try.f3]
      simp [cdL_seq, cdL_region, cdL_drawn, cdL_cond, cdL_block, cdL_skip, cdL_label, cdL_exit, cdL_ret, endL, evSeq, evOne, evAct, evOp, opKind, evPure, evRead, evNew, evWrite, evSlice, natOf, optVal, readAt, AV.cells, wantedA, putTm, val, allVals, evBin, evInt, evStr, evAppend, denseFrom, sizesAre, onesIn, evPlan, recheck, AV.beq_refl, H.new, H.put, fillF, fillAt, allOne, AV.one, setArgs, evRes, resOf, ofVal, ofVal0, blt_dec, ble_dec, beq_dec, T.get_set_ite, T.get_e, isShift, ikBeq, ty_0, ty_1, ty_2, ty_3, ty_4, ty_5, ty_6, ty_7, ty_8, ty_9, ty_10, ty_11, ty_12, ty_13, ty_14, ty_15, ty_16, ty_17, ty_18, ty_19, ty_20, ty_21, ty_22, ty_23, ty_24, ty_25, ty_26, ty_27, ty_28, ty_29, ty_30, ty_31, ty_32, ty_33, ty_34, ty_35, ty_36, ty_37, ty_38, ty_39, ty_40, ty_41, ty_42, ty_43, ty_44, ty_45, ty_46, ty_47, ty_48, ty_49, ty_50, ty_51, ty_52, ty_53, ty_54, ty_55, ty_56, ty_57, ty_58, ty_59, ty_60, ty_61, ty_62, ty_63, ty_64, ty_65, ty_66, ty_67, ty_68, ty_69, ty_70, ty_71, ty_72, ty_73, ty_74, ty_75, ty_76, ty_77, ty_78, pl_3_7, pl_3_12, pl_3_14, pl_3_15, pl_3_17, pl_4_12, pl_5_7, pl_6_16, pl_6_21, pl_7_3, pl_7_7, pl_8_5, pl_12_3, pl_13_1, pl_13_11, pl_15_6, pl_16_8, pl_17_4, pl_19_5, pl_19_12, pl_24_5, pl_24_12, pl_26_1, pl_27_2, pl_28_3, pl_30_3, pl_33_2, eUty, eUpl, k8, k9, h1, h2]
    | false =>
      cases h3 : isF t with
      | false =>
        rw [hte] at k9 k10 ⊢
        rw [evL_fn envU (by kernel_rfl) (by kernel_rfl) body3 _ _ rfl]
        simp only [codeAt, sub, Try.f3]
        simp [cdL_seq, cdL_region, cdL_drawn, cdL_cond, cdL_block, cdL_skip, cdL_label, cdL_exit, cdL_ret, endL, evSeq, evOne, evAct, evOp, opKind, evPure, evRead, evNew, evWrite, evSlice, natOf, optVal, readAt, AV.cells, wantedA, putTm, val, allVals, evBin, evInt, evStr, evAppend, denseFrom, sizesAre, onesIn, evPlan, recheck, AV.beq_refl, H.new, H.put, fillF, fillAt, allOne, AV.one, setArgs, evRes, resOf, ofVal, ofVal0, blt_dec, ble_dec, beq_dec, T.get_set_ite, T.get_e, isShift, ikBeq, ty_0, ty_1, ty_2, ty_3, ty_4, ty_5, ty_6, ty_7, ty_8, ty_9, ty_10, ty_11, ty_12, ty_13, ty_14, ty_15, ty_16, ty_17, ty_18, ty_19, ty_20, ty_21, ty_22, ty_23, ty_24, ty_25, ty_26, ty_27, ty_28, ty_29, ty_30, ty_31, ty_32, ty_33, ty_34, ty_35, ty_36, ty_37, ty_38, ty_39, ty_40, ty_41, ty_42, ty_43, ty_44, ty_45, ty_46, ty_47, ty_48, ty_49, ty_50, ty_51, ty_52, ty_53, ty_54, ty_55, ty_56, ty_57, ty_58, ty_59, ty_60, ty_61, ty_62, ty_63, ty_64, ty_65, ty_66, ty_67, ty_68, ty_69, ty_70, ty_71, ty_72, ty_73, ty_74, ty_75, ty_76, ty_77, ty_78, pl_3_7, pl_3_12, pl_3_14, pl_3_15, pl_3_17, pl_4_12, pl_5_7, pl_6_16, pl_6_21, pl_7_3, pl_7_7, pl_8_5, pl_12_3, pl_13_1, pl_13_11, pl_15_6, pl_16_8, pl_17_4, pl_19_5, pl_19_12, pl_24_5, pl_24_12, pl_26_1, pl_27_2, pl_28_3, pl_30_3, pl_33_2, eUty, eUpl, k8, k9, k10, h1, h2, h3]
      | true =>
        -- plain
        have hm := h1
        simp only [mayF, Bool.and_eq_true] at hm
        have hl20 : ps.length < 20 := by have := hm.2; rw [ltI_eq] at this; simp at this; omega
        obtain ⟨hpi, hpz⟩ := mayG_ok 20 ps 0 hm.1 (by omega) (by omega) (by omega)
        have hok : ∀ p ∈ ps, okT p.1 ∧ okT p.2 := fun p hp => ⟨⟨isF_each (hpi p hp).1, (hfp p hp).1⟩, ⟨isF_each (hpi p hp).2, (hfp p hp).2⟩⟩
        have hot : okT t := ⟨isF_each h3, hf⟩
        have hoA := okT_all ps t hot hok
        have hst : size t ≤ 30 := by
          have : ¬ (30 : Int) < szF t 100 := by rw [ltI_eq] at h2; simpa using h2
          have := szF_size t 100 (by omega)
          omega
        have hsA := size_all ps t
        obtain ⟨L, hLe⟩ : ∃ L, L = varsF (allF ps t) [] := ⟨_, rfl⟩
        have hLl : L.length ≤ 1000 := by
          have := varsF_len (allF ps t) []
          rw [← hLe] at this
          simp at this
          omega
        have hoL : ∀ n, occF n (allF ps t) = true → n ∈ L := fun n hn => by
          have : hasI (varsF (allF ps t) []) n = true := by rw [vars_occ n [] hoA.1, hn]; simp
          rw [← hLe] at this
          obtain ⟨k, hk, e⟩ := List.any_eq_true.1 this
          rw [← intBeq_iff.1 e]; exact hk
        have hLt : ∀ n, occF n t = true → n ∈ L := fun n hn => hoL n (occ_all n ps t (.inl hn))
        have lp3 := fun (x : Option (Ex × Tm × H)) tm h => loop3 (L := L) (ps := ps) (t := t) (by omega) hok hot hoL (s1 := 2) (m1 := 1) (sR := 3) (b3 := 0) (by omega) (by omega) ps 0 [] [] .full .full (tm := tm) (h := h) (x := x)
        have R0 : ∀ tm h, tm.get 0 = some (.sl .no (prs ps)) → tm.get 3 = some (.ptr (some (0, 0))) → tm.get 5 = some (.ptr (some (2, 0))) → tm.get 6 = some (.ptr (some (3, 0))) → h.t.get 0 = some (.cells t.av.cells) → h.t.get 1 = some (.map []) → h.t.get 2 = some (.cells [.map (some 1), .int .i64 0]) → h.t.get 3 = some (.cells [.sl .full [], .sl .full [], .int .i64 0]) → 4 ≤ h.nx → R3 L ps t 2 1 3 0 [] [] .full .full tm h :=
          fun tm h q0 q3 q5 q6 w0 w1 w2 w3 wn => ⟨q0, q3, q5, q6, w0, by omega, ⟨w2, by simpa [esOf] using w1, by omega, by omega⟩, ⟨by simpa [ints, Ty.avs] using w3, by omega⟩, Rows.nil h, rv_nil hLl, st_nil, tot_nil⟩
        have fin : ∀ (sd S : Sd) (o1 o2 : Own) (tm : Tm) (h : H), R3 L ps t 2 1 3 0 sd S o1 o2 tm h → ∃ u : Ty, evL envU 16 [.ptr (some (2, 0)), t.av] h = some (u.av, h) ∧ evL envU 18 [u.av] h = some ((normF u).av, h) ∧ evL envU 19 [.ptr (some (3, 0)), t.av] h = some (u.av, h) ∧ evL envU 15 [(normF u).av, (normF u).av] h = some (.bool true, h) := by
          intro sd S o1 o2 tm h ⟨_, _, _, _, _, _, hp, hrs, _, hrv, hst, htot⟩
          obtain ⟨u, r1, r2⟩ := htot t hot
          have hou := r1.ok hst.o1 hot
          have hLu : ∀ n, occF n u = true → n ∈ L := by
            obtain ⟨f, hf⟩ := r2
            exact ro_in (fun p hp => (hrv.k p hp).2) hf hLt
          have hv := vars_in hou.1 hLu hrv.l
          have fn := norm_fit hou hv
          obtain ⟨f, e⟩ := r1.of hst.o1 hot
          refine ⟨u, c16 (E := envU) (by kernel_rfl) (Ty.av_bare 0 t) (each_good hot.1) hp hst.o1.good e, c18 (E := envU) (by kernel_rfl) (Ty.av_bare 0 u) ⟨hou, hv⟩ h, c19 (E := envU) (by kernel_rfl) (Ty.av_bare 0 t) (each_good hot.1) hst.o2.good (by have := hrv.len; omega) hrs r2, ?_⟩
          have := cU15 (Ty.av_bare 0 (normF u)) (Ty.av_bare 0 (normF u)) fn fn h
          rw [sameF_iff.2 rfl] at this
          exact this
        have kt := hte
        rw [hte] at k9 k10 R0 fin ⊢
        simp only [AV.cells] at R0
        rw [evL_fn envU (by kernel_rfl) (by kernel_rfl) body3 _ _ rfl]
        simp only [codeAt, sub, Try.f3]
        simp [cdL_seq, cdL_region, cdL_drawn, cdL_cond, cdL_block, cdL_skip, cdL_label, cdL_exit, cdL_ret, endL, evSeq, evOne, evAct, evOp, opKind, evPure, evRead, evNew, evWrite, evSlice, natOf, optVal, readAt, AV.cells, wantedA, putTm, val, allVals, evBin, evInt, evStr, evAppend, denseFrom, sizesAre, onesIn, evPlan, recheck, AV.beq_refl, H.new, H.put, fillF, fillAt, allOne, AV.one, setArgs, evRes, resOf, ofVal, ofVal0, blt_dec, ble_dec, beq_dec, T.get_set_ite, T.get_e, isShift, ikBeq, ty_0, ty_1, ty_2, ty_3, ty_4, ty_5, ty_6, ty_7, ty_8, ty_9, ty_10, ty_11, ty_12, ty_13, ty_14, ty_15, ty_16, ty_17, ty_18, ty_19, ty_20, ty_21, ty_22, ty_23, ty_24, ty_25, ty_26, ty_27, ty_28, ty_29, ty_30, ty_31, ty_32, ty_33, ty_34, ty_35, ty_36, ty_37, ty_38, ty_39, ty_40, ty_41, ty_42, ty_43, ty_44, ty_45, ty_46, ty_47, ty_48, ty_49, ty_50, ty_51, ty_52, ty_53, ty_54, ty_55, ty_56, ty_57, ty_58, ty_59, ty_60, ty_61, ty_62, ty_63, ty_64, ty_65, ty_66, ty_67, ty_68, ty_69, ty_70, ty_71, ty_72, ty_73, ty_74, ty_75, ty_76, ty_77, ty_78, pl_3_7, pl_3_12, pl_3_14, pl_3_15, pl_3_17, pl_4_12, pl_5_7, pl_6_16, pl_6_21, pl_7_3, pl_7_7, pl_8_5, pl_12_3, pl_13_1, pl_13_11, pl_15_6, pl_16_8, pl_17_4, pl_19_5, pl_19_12, pl_24_5, pl_24_12, pl_26_1, pl_27_2, pl_28_3, pl_30_3, pl_33_2, eUty, eUpl, k8, k9, k10, h1, h2, h3, newU_run]
        generalize hx : cdL envU 3 108 (.loop b3_0) _ _ = x
        rcases lp3 x _ _ hx rfl (Nat.zero_le _) (by simp [T.get_set_ite]) (R0 _ _ (by simp [T.get_set_ite]) (by simp [T.get_set_ite]) (by simp [T.get_set_ite]) (by simp [T.get_set_ite]) (by simp [T.get_set_ite]) (by simp [T.get_set_ite]) (by simp [T.get_set_ite]) (by simp [T.get_set_ite]) (by simp)) with ⟨tm', h', rfl, g4⟩ | ⟨tm', h', sd', S', o1, o2, rfl, hR⟩
        · simp [cdL_seq, cdL_region, cdL_drawn, cdL_cond, cdL_block, cdL_skip, cdL_label, cdL_exit, cdL_ret, endL, evSeq, evOne, evAct, evOp, opKind, evPure, evRead, evNew, evWrite, evSlice, natOf, optVal, readAt, AV.cells, wantedA, putTm, val, allVals, evBin, evInt, evStr, evAppend, denseFrom, sizesAre, onesIn, evPlan, recheck, AV.beq_refl, H.new, H.put, fillF, fillAt, allOne, AV.one, setArgs, evRes, resOf, ofVal, ofVal0, blt_dec, ble_dec, beq_dec, T.get_set_ite, T.get_e, isShift, ikBeq, ty_0, ty_1, ty_2, ty_3, ty_4, ty_5, ty_6, ty_7, ty_8, ty_9, ty_10, ty_11, ty_12, ty_13, ty_14, ty_15, ty_16, ty_17, ty_18, ty_19, ty_20, ty_21, ty_22, ty_23, ty_24, ty_25, ty_26, ty_27, ty_28, ty_29, ty_30, ty_31, ty_32, ty_33, ty_34, ty_35, ty_36, ty_37, ty_38, ty_39, ty_40, ty_41, ty_42, ty_43, ty_44, ty_45, ty_46, ty_47, ty_48, ty_49, ty_50, ty_51, ty_52, ty_53, ty_54, ty_55, ty_56, ty_57, ty_58, ty_59, ty_60, ty_61, ty_62, ty_63, ty_64, ty_65, ty_66, ty_67, ty_68, ty_69, ty_70, ty_71, ty_72, ty_73, ty_74, ty_75, ty_76, ty_77, ty_78, pl_3_7, pl_3_12, pl_3_14, pl_3_15, pl_3_17, pl_4_12, pl_5_7, pl_6_16, pl_6_21, pl_7_3, pl_7_7, pl_8_5, pl_12_3, pl_13_1, pl_13_11, pl_15_6, pl_16_8, pl_17_4, pl_19_5, pl_19_12, pl_24_5, pl_24_12, pl_26_1, pl_27_2, pl_28_3, pl_30_3, pl_33_2, g4]
        · obtain ⟨u, e1, e2, e3, e4⟩ := fin _ _ _ _ _ _ hR
          obtain ⟨g0, g3, g5, g6, z3, l3, _⟩ := hR
          obtain ⟨u0, u1, u2, hue⟩ := av_cells u
          obtain ⟨v0, v1, v2, hve⟩ := av_cells (normF u)
          rw [hte] at z3
          rw [hue] at e1 e2 e3
          rw [hve] at e2 e4
          simp only [AV.cells] at z3
          simp [cdL_seq, cdL_region, cdL_drawn, cdL_cond, cdL_block, cdL_skip, cdL_label, cdL_exit, cdL_ret, endL, evSeq, evOne, evAct, evOp, opKind, evPure, evRead, evNew, evWrite, evSlice, natOf, optVal, readAt, AV.cells, wantedA, putTm, val, allVals, evBin, evInt, evStr, evAppend, denseFrom, sizesAre, onesIn, evPlan, recheck, AV.beq_refl, H.new, H.put, fillF, fillAt, allOne, AV.one, setArgs, evRes, resOf, ofVal, ofVal0, blt_dec, ble_dec, beq_dec, T.get_set_ite, T.get_e, isShift, ikBeq, ty_0, ty_1, ty_2, ty_3, ty_4, ty_5, ty_6, ty_7, ty_8, ty_9, ty_10, ty_11, ty_12, ty_13, ty_14, ty_15, ty_16, ty_17, ty_18, ty_19, ty_20, ty_21, ty_22, ty_23, ty_24, ty_25, ty_26, ty_27, ty_28, ty_29, ty_30, ty_31, ty_32, ty_33, ty_34, ty_35, ty_36, ty_37, ty_38, ty_39, ty_40, ty_41, ty_42, ty_43, ty_44, ty_45, ty_46, ty_47, ty_48, ty_49, ty_50, ty_51, ty_52, ty_53, ty_54, ty_55, ty_56, ty_57, ty_58, ty_59, ty_60, ty_61, ty_62, ty_63, ty_64, ty_65, ty_66, ty_67, ty_68, ty_69, ty_70, ty_71, ty_72, ty_73, ty_74, ty_75, ty_76, ty_77, ty_78, pl_3_7, pl_3_12, pl_3_14, pl_3_15, pl_3_17, pl_4_12, pl_5_7, pl_6_16, pl_6_21, pl_7_3, pl_7_7, pl_8_5, pl_12_3, pl_13_1, pl_13_11, pl_15_6, pl_16_8, pl_17_4, pl_19_5, pl_19_12, pl_24_5, pl_24_12, pl_26_1, pl_27_2, pl_28_3, pl_30_3, pl_33_2, eUty, eUpl, g0, g3, g5, g6, z3, e1, e2, e3, e4, cU14]
end Go.Proofs.Ytiifjjcoepgobaa.Env
