/- Size, each, Is, Same as primitives. -/
import Derived.Test.YtiifjjcoepgobaaYB
set_option autoImplicit false
set_option maxRecDepth 100000
set_option linter.unusedSimpArgs false
set_option linter.unusedVariables false
set_option linter.unusedSectionVars false
namespace Go.Proofs.Ytiifjjcoepgobaa.Env
open Go.Ev

/-! ### Size -/
def q9 (d : Nat) (t : Ty) (m : Int) : Prop := dep t ≤ d ∧ fit t ∧ 0 ≤ m ∧ m ≤ 4000
def q9' (t : Ty) (m : Int) : Prop := fit t ∧ 0 ≤ m ∧ m ≤ 4000
noncomputable abbrev pd9 (d : Nat) := primVal (ofRel (Rel2 (q9 d) szF))
noncomputable abbrev p9 := primVal (ofRel (Rel2 q9' szF))
theorem dep_pos (t : Ty) : 1 ≤ dep t := by cases t; simp [dep]
theorem prim_empty {α β δ : Type} [Enc α] [Enc β] [Enc δ] {q : α → β → Prop} {F : α → β → δ} (hq : ∀ a b, ¬ q a b) (a : List AV) (h : H) : primVal (ofRel (Rel2 q F)) a h = none := by
  unfold primVal
  cases hv : ofRel (Rel2 q F) a with
  | none => rfl
  | some v => obtain ⟨x, y, _, h2, _⟩ := ofRel_some hv; exact absurd h2 (hq x y)
theorem prim_empty1 {α δ : Type} [Enc α] [Enc δ] {q : α → Prop} {F : α → δ} (hq : ∀ a, ¬ q a) (a : List AV) (h : H) : primVal (ofRel (Rel1 q F)) a h = none := by
  unfold primVal
  cases hv : ofRel (Rel1 q F) a with
  | none => rfl
  | some v => obtain ⟨x, _, h2, _⟩ := ofRel_some hv; exact absurd h2 (hq x)
theorem prim_empty3 {α β γ δ : Type} [Enc α] [Enc β] [Enc γ] [Enc δ] {q : α → β → γ → Prop} {F : α → β → γ → δ} (hq : ∀ a b c, ¬ q a b c) (a : List AV) (h : H) : primVal (ofRel (Rel3 q F)) a h = none := by
  unfold primVal
  cases hv : ofRel (Rel3 q F) a with
  | none => rfl
  | some v => obtain ⟨x, y, z, _, h2, _⟩ := ofRel_some hv; exact absurd h2 (hq x y z)
theorem union1 {α δ : Type} [Enc α] [Enc δ] {q : Nat → α → Prop} {q' : α → Prop} {F : α → δ} (hq : ∀ a, q' a → ∃ d, q d a) (a : List AV) (h : H) (r : AV × H) (hr : primVal (ofRel (Rel1 q' F)) a h = some r) : ∃ d, primVal (ofRel (Rel1 (q d) F)) a h = some r := by
  unfold primVal at hr
  cases hv : ofRel (Rel1 q' F) a with
  | none => rw [hv] at hr; simp at hr
  | some v =>
    rw [hv] at hr
    obtain ⟨x, h1, h2, h3⟩ := ofRel_some hv
    obtain ⟨d, hd⟩ := hq x h2
    refine ⟨d, ?_⟩
    unfold primVal
    rw [ofRel_of (R := Rel1 (q d) F) ⟨x, h1, hd, h3⟩ (fun u ⟨b, g1, _, g2⟩ => by
      obtain ⟨y, k, rfl, w1, w2⟩ : ∃ y k, a = y :: k ∧ y.wk 0 (Enc.enc x) ∧ AV.wks 0 k [] := by
        cases a with
        | nil => exact absurd (wks_iff.1 h1).1 (by simp)
        | cons y k => exact ⟨y, k, rfl, wks_cons.1 h1⟩
      rw [g2, h3, Enc.inj (wks_cons.1 g1).1 w1])]
    exact hr
theorem union2 {α β δ : Type} [Enc α] [Enc β] [Enc δ] {q : Nat → α → β → Prop} {q' : α → β → Prop} {F : α → β → δ} (hq : ∀ a b, q' a b → ∃ d, q d a b) (a : List AV) (h : H) (r : AV × H) (hr : primVal (ofRel (Rel2 q' F)) a h = some r) : ∃ d, primVal (ofRel (Rel2 (q d) F)) a h = some r := by
  unfold primVal at hr
  cases hv : ofRel (Rel2 q' F) a with
  | none => rw [hv] at hr; simp at hr
  | some v =>
    rw [hv] at hr
    obtain ⟨x, y, h1, h2, h3⟩ := ofRel_some hv
    obtain ⟨d, hd⟩ := hq x y h2
    refine ⟨d, ?_⟩
    unfold primVal
    rw [ofRel_of (R := Rel2 (q d) F) ⟨x, y, h1, hd, h3⟩ (fun u ⟨b, c, g1, _, g2⟩ => by
      match a, h1, g1 with
      | [u0, u1], h1, g1 =>
        obtain ⟨w1, w2⟩ := wks_cons.1 h1
        obtain ⟨w3, w4⟩ := wks_cons.1 g1
        rw [g2, h3, Enc.inj w3 w1, Enc.inj (wks1.1 w4) (wks1.1 w2)]
      | [], h1, _ => exact absurd (wks_iff.1 h1).1 (by simp)
      | [_], h1, _ => exact absurd (wks_iff.1 h1).1 (by simp)
      | _ :: _ :: _ :: _, h1, _ => exact absurd (wks_iff.1 h1).1 (by simp))]
    exact hr
theorem union3 {α β γ δ : Type} [Enc α] [Enc β] [Enc γ] [Enc δ] {q : Nat → α → β → γ → Prop} {q' : α → β → γ → Prop} {F : α → β → γ → δ} (hq : ∀ a b c, q' a b c → ∃ d, q d a b c) (a : List AV) (h : H) (r : AV × H) (hr : primVal (ofRel (Rel3 q' F)) a h = some r) : ∃ d, primVal (ofRel (Rel3 (q d) F)) a h = some r := by
  unfold primVal at hr
  cases hv : ofRel (Rel3 q' F) a with
  | none => rw [hv] at hr; simp at hr
  | some v =>
    rw [hv] at hr
    obtain ⟨x, y, z, h1, h2, h3⟩ := ofRel_some hv
    obtain ⟨d, hd⟩ := hq x y z h2
    refine ⟨d, ?_⟩
    unfold primVal
    rw [ofRel_of (R := Rel3 (q d) F) ⟨x, y, z, h1, hd, h3⟩ (fun u ⟨b, c, e, g1, _, g2⟩ => by
      match a, h1, g1 with
      | [u0, u1, u2], h1, g1 =>
        obtain ⟨w1, w2⟩ := wks_cons.1 h1
        obtain ⟨w3, w4⟩ := wks_cons.1 g1
        obtain ⟨w5, w6⟩ := wks_cons.1 w2
        obtain ⟨w7, w8⟩ := wks_cons.1 w4
        rw [g2, h3, Enc.inj w3 w1, Enc.inj w7 w5, Enc.inj (wks1.1 w8) (wks1.1 w6)]
      | [], h1, _ => exact absurd (wks_iff.1 h1).1 (by simp)
      | [_], h1, _ => exact absurd (wks_iff.1 h1).1 (by simp)
      | [_, _], h1, _ => exact absurd (wks_iff.1 h1).1 (by simp)
      | _ :: _ :: _ :: _ :: _, h1, _ => exact absurd (wks_iff.1 h1).1 (by simp))]
    exact hr
theorem pd9_ok : ∀ d, PrimOk Try.prog 9 (pd9 d) := prim_rec envA_ok (prim_none Try.func9 (by kernel_rfl) (by kernel_rfl) (prim_empty fun a b h => by have := dep_pos a; have := h.1; omega)) fun d hE => by
  refine prim2_ok hE (fn := Try.f9) (by kernel_rfl) body9 (by kernel_rfl) fun t m hq => ?_
  obtain ⟨hdp, hf, hm⟩ := hq
  obtain ⟨o, n, ks⟩ := t
  simp only [dep] at hdp
  simp only [fit] at hf
  have hcall : ∀ t m h, dep t ≤ d → fit t → 0 ≤ m ∧ m ≤ 4000 → evL (addPrim envA 9 (pd9 d)) 9 [t.av, .int .i64 m] h = some (.int .i64 (szF t m), h) := fun t m h h1 h2 h3 =>
    prim2_call (a := t) (b := m) (F := szF) (q := q9 d) (by kernel_rfl) (Enc.bare 0 t) (Enc.bare 0 m) ⟨h1, h2, h3⟩ h
  generalize hEe : addPrim envA 9 (pd9 d) = E at *
  have hty : E.ty = env.ty := by rw [← hEe]; rfl
  have hpl : E.plan = env.plan := by rw [← hEe]; rfl
  unfold bodyL
  simp only [codeAt, sub, Try.f9]
  simp [cdL_seq, cdL_region, cdL_drawn, cdL_cond, cdL_block, cdL_skip, cdL_label, cdL_exit, cdL_ret, endL, evSeq, evOne, evAct, evOp, opKind, evPure, evRead, evNew, evWrite, evSlice, natOf, optVal, readAt, AV.cells, wantedA, putTm, val, allVals, evBin, evInt, evStr, evAppend, denseFrom, sizesAre, onesIn, evPlan, recheck, AV.beq_refl, H.new, H.put, fillF, fillAt, allOne, AV.one, setArgs, evRes, resOf, ofVal, ofVal0, blt_dec, ble_dec, beq_dec, T.get_set_ite, T.get_e, isShift, ikBeq, ty_0, ty_1, ty_2, ty_3, ty_4, ty_5, ty_6, ty_7, ty_8, ty_9, ty_10, ty_11, ty_12, ty_13, ty_14, ty_15, ty_16, ty_17, ty_18, ty_19, ty_20, ty_21, ty_22, ty_23, ty_24, ty_25, ty_26, ty_27, ty_28, ty_29, ty_30, ty_31, ty_32, ty_33, ty_34, ty_35, ty_36, ty_37, ty_38, ty_39, ty_40, ty_41, ty_42, ty_43, ty_44, ty_45, ty_46, ty_47, ty_48, ty_49, ty_50, ty_51, ty_52, ty_53, ty_54, ty_55, ty_56, ty_57, ty_58, ty_59, ty_60, ty_61, ty_62, ty_63, ty_64, ty_65, ty_66, ty_67, ty_68, ty_69, ty_70, ty_71, ty_72, ty_73, ty_74, ty_75, ty_76, ty_77, ty_78, pl_3_7, pl_3_12, pl_3_14, pl_3_15, pl_3_17, pl_4_12, pl_5_7, pl_6_16, pl_6_21, pl_7_3, pl_7_7, pl_8_5, pl_12_3, pl_13_1, pl_13_11, pl_15_6, pl_16_8, pl_17_4, pl_19_5, pl_19_12, pl_24_5, pl_24_12, pl_26_1, pl_27_2, pl_28_3, pl_30_3, pl_33_2, hty, hpl, Enc.enc, Ty.av]
  generalize hx : cdL E 9 31 (.loop b9_0) _ _ = x
  obtain ⟨tm', rfl, g5⟩ := loop9 hty (o := o) (n := n) (ks := ks) (d := d) hm hf.1 hf.2.2 (by omega) hcall ks 0 1 hx rfl (Nat.zero_le _) (by omega) (.inr rfl) (by simp [T.get_set_ite]) (by simp [T.get_set_ite]) (by simp [T.get_set_ite]) (by simp [T.get_set_ite]) (by simp [T.get_set_ite])
  simp [cdL_seq, cdL_region, cdL_drawn, cdL_cond, cdL_block, cdL_skip, cdL_label, cdL_exit, cdL_ret, endL, evSeq, evOne, evAct, evOp, opKind, evPure, evRead, evNew, evWrite, evSlice, natOf, optVal, readAt, AV.cells, wantedA, putTm, val, allVals, evBin, evInt, evStr, evAppend, denseFrom, sizesAre, onesIn, evPlan, recheck, AV.beq_refl, H.new, H.put, fillF, fillAt, allOne, AV.one, setArgs, evRes, resOf, ofVal, ofVal0, blt_dec, ble_dec, beq_dec, T.get_set_ite, T.get_e, isShift, ikBeq, ty_0, ty_1, ty_2, ty_3, ty_4, ty_5, ty_6, ty_7, ty_8, ty_9, ty_10, ty_11, ty_12, ty_13, ty_14, ty_15, ty_16, ty_17, ty_18, ty_19, ty_20, ty_21, ty_22, ty_23, ty_24, ty_25, ty_26, ty_27, ty_28, ty_29, ty_30, ty_31, ty_32, ty_33, ty_34, ty_35, ty_36, ty_37, ty_38, ty_39, ty_40, ty_41, ty_42, ty_43, ty_44, ty_45, ty_46, ty_47, ty_48, ty_49, ty_50, ty_51, ty_52, ty_53, ty_54, ty_55, ty_56, ty_57, ty_58, ty_59, ty_60, ty_61, ty_62, ty_63, ty_64, ty_65, ty_66, ty_67, ty_68, ty_69, ty_70, ty_71, ty_72, ty_73, ty_74, ty_75, ty_76, ty_77, ty_78, pl_3_7, pl_3_12, pl_3_14, pl_3_15, pl_3_17, pl_4_12, pl_5_7, pl_6_16, pl_6_21, pl_7_3, pl_7_7, pl_8_5, pl_12_3, pl_13_1, pl_13_11, pl_15_6, pl_16_8, pl_17_4, pl_19_5, pl_19_12, pl_24_5, pl_24_12, pl_26_1, pl_27_2, pl_28_3, pl_30_3, pl_33_2, hty, hpl, g5, szF, AV.wk]
theorem p9_ok : PrimOk Try.prog 9 p9 := prim_union pd9_ok (union2 fun a b h => ⟨dep a, Nat.le_refl _, h⟩)

/-! ### each -/
mutual
def eachF : Ty → Bool
  | .mk o n ks => intBeq (kidsF o) ↑ks.length && (!ltI n 0 && ((natsBeq o varS || intBeq n 0) && eachL ks))
def eachL : List Ty → Bool
  | [] => true
  | t :: l => eachF t && eachL l
end
noncomputable def b26_0 : Code := loopOf Try.f26 0
theorem body26 : Try.f26.body = some (.seq (codeAt Try.f26 [0]) (.seq (codeAt Try.f26 [1, 0]) (.seq (.seq (codeAt Try.f26 [1, 1, 0, 0]) (.block 0 (.loop b26_0))) (codeAt Try.f26 [1, 1, 1])))) := rfl
theorem avs_len (ks : List Ty) : (Ty.avs ks).length = ks.length := by rw [Ty.avs_map, List.length_map]
theorem avs_get {ks : List Ty} {i : Nat} {t : Ty} (h : ks[i]? = some t) : (Ty.avs ks)[i]? = some t.av := by rw [Ty.avs_map, List.getElem?_map, h]; rfl
theorem av_agg (t : Ty) : ∃ a b c, t.av = .agg [a, b, c] := by cases t; exact ⟨_, _, _, rfl⟩
theorem loop26 {E : Env} (hty : E.ty = env.ty) (hpl : E.plan = env.plan) {o : List Nat} {n : Int} {ks : List Ty} {d : Nat} (hl : ks.length ≤ 9223372036854775807) (hf : fits ks) (hd : deps ks ≤ d)
    (hc : ∀ t h, dep t ≤ d → fit t → evL E 26 [t.av] h = some (.bool (eachF t), h)) :
    ∀ (l : List Ty) (i : Nat) {tm : Tm} {h : H} {x : Option (Ex × Tm × H)}, cdL E 26 40 (.loop b26_0) tm h = x → l = ks.drop i → i ≤ ks.length →
    tm.get 1 = some (.ptr (some (0, 0))) → tm.get 3 = some (.int .i64 ↑i) → h.t.get 0 = some (.cells [.str o, .int .i64 n, .sl .no (Ty.avs ks)]) →
    ∃ tm', x = some (bif eachL l then .exit 0 else .ret, tm', h) ∧ (eachL l = false → tm'.get 2 = some (.bool false))
  | [], i, tm, h, x, hx, hd, hi, h1, h3, hz => by
    have hlen := dnil hd hi
    have hl2 : (Ty.avs ks).length = i := by rw [avs_len]; exact hlen
    obtain ⟨R, hR, hx⟩ := loop_step hx
    simp [b26_0, loopOf, Try.f26, loops, cdL_seq, cdL_region, cdL_drawn, cdL_cond, cdL_block, cdL_skip, cdL_label, cdL_exit, cdL_ret, endL, evSeq, evOne, evAct, evOp, opKind, evPure, evRead, evNew, evWrite, evSlice, natOf, optVal, readAt, AV.cells, wantedA, putTm, val, allVals, evBin, evInt, evStr, evAppend, denseFrom, sizesAre, onesIn, evPlan, recheck, AV.beq_refl, H.new, H.put, fillF, fillAt, allOne, AV.one, setArgs, evRes, resOf, ofVal, ofVal0, blt_dec, ble_dec, beq_dec, T.get_set_ite, T.get_e, isShift, ikBeq, ty_0, ty_1, ty_2, ty_3, ty_4, ty_5, ty_6, ty_7, ty_8, ty_9, ty_10, ty_11, ty_12, ty_13, ty_14, ty_15, ty_16, ty_17, ty_18, ty_19, ty_20, ty_21, ty_22, ty_23, ty_24, ty_25, ty_26, ty_27, ty_28, ty_29, ty_30, ty_31, ty_32, ty_33, ty_34, ty_35, ty_36, ty_37, ty_38, ty_39, ty_40, ty_41, ty_42, ty_43, ty_44, ty_45, ty_46, ty_47, ty_48, ty_49, ty_50, ty_51, ty_52, ty_53, ty_54, ty_55, ty_56, ty_57, ty_58, ty_59, ty_60, ty_61, ty_62, ty_63, ty_64, ty_65, ty_66, ty_67, ty_68, ty_69, ty_70, ty_71, ty_72, ty_73, ty_74, ty_75, ty_76, ty_77, ty_78, pl_3_7, pl_3_12, pl_3_14, pl_3_15, pl_3_17, pl_4_12, pl_5_7, pl_6_16, pl_6_21, pl_7_3, pl_7_7, pl_8_5, pl_12_3, pl_13_1, pl_13_11, pl_15_6, pl_16_8, pl_17_4, pl_19_5, pl_19_12, pl_24_5, pl_24_12, pl_26_1, pl_27_2, pl_28_3, pl_30_3, pl_33_2, lp, hty, hpl, h1, h3, hz, hl2, ltI_f] at hx
    exact ⟨_, by rw [← hx]; rfl, by simp [eachL]⟩
  | t :: l, i, tm, h, x, hx, hdr, hi, h1, h3, hz => by
    obtain ⟨hlt, hct, hd'⟩ := dcons hdr
    have hl2 := avs_len ks
    have hat := avs_get hct
    have htm := List.mem_of_getElem? hct
    obtain ⟨R, hR, hx⟩ := loop_step hx
    have hlt' := ltI_t hlt
    have hw := wr_succ (i := i) (by omega)
    have hcall := fun h => hc t h (Nat.le_trans (dep_mem htm) hd) (fits_mem.1 hf t htm)
    obtain ⟨a0, a1, a2, ha⟩ := av_agg t
    rw [ha] at hat hcall
    cases hb : eachF t with
    | false =>
      simp [b26_0, loopOf, Try.f26, loops, cdL_seq, cdL_region, cdL_drawn, cdL_cond, cdL_block, cdL_skip, cdL_label, cdL_exit, cdL_ret, endL, evSeq, evOne, evAct, evOp, opKind, evPure, evRead, evNew, evWrite, evSlice, natOf, optVal, readAt, AV.cells, wantedA, putTm, val, allVals, evBin, evInt, evStr, evAppend, denseFrom, sizesAre, onesIn, evPlan, recheck, AV.beq_refl, H.new, H.put, fillF, fillAt, allOne, AV.one, setArgs, evRes, resOf, ofVal, ofVal0, blt_dec, ble_dec, beq_dec, T.get_set_ite, T.get_e, isShift, ikBeq, ty_0, ty_1, ty_2, ty_3, ty_4, ty_5, ty_6, ty_7, ty_8, ty_9, ty_10, ty_11, ty_12, ty_13, ty_14, ty_15, ty_16, ty_17, ty_18, ty_19, ty_20, ty_21, ty_22, ty_23, ty_24, ty_25, ty_26, ty_27, ty_28, ty_29, ty_30, ty_31, ty_32, ty_33, ty_34, ty_35, ty_36, ty_37, ty_38, ty_39, ty_40, ty_41, ty_42, ty_43, ty_44, ty_45, ty_46, ty_47, ty_48, ty_49, ty_50, ty_51, ty_52, ty_53, ty_54, ty_55, ty_56, ty_57, ty_58, ty_59, ty_60, ty_61, ty_62, ty_63, ty_64, ty_65, ty_66, ty_67, ty_68, ty_69, ty_70, ty_71, ty_72, ty_73, ty_74, ty_75, ty_76, ty_77, ty_78, pl_3_7, pl_3_12, pl_3_14, pl_3_15, pl_3_17, pl_4_12, pl_5_7, pl_6_16, pl_6_21, pl_7_3, pl_7_7, pl_8_5, pl_12_3, pl_13_1, pl_13_11, pl_15_6, pl_16_8, pl_17_4, pl_19_5, pl_19_12, pl_24_5, pl_24_12, pl_26_1, pl_27_2, pl_28_3, pl_30_3, pl_33_2, lp, hty, hpl, h1, h3, hz, hl2, hlt', hat, hw, hcall, hb] at hx
      exact ⟨_, by rw [← hx]; simp [eachL, hb]; rfl, by simp [T.get_set_ite]⟩
    | true =>
      simp [b26_0, loopOf, Try.f26, loops, cdL_seq, cdL_region, cdL_drawn, cdL_cond, cdL_block, cdL_skip, cdL_label, cdL_exit, cdL_ret, endL, evSeq, evOne, evAct, evOp, opKind, evPure, evRead, evNew, evWrite, evSlice, natOf, optVal, readAt, AV.cells, wantedA, putTm, val, allVals, evBin, evInt, evStr, evAppend, denseFrom, sizesAre, onesIn, evPlan, recheck, AV.beq_refl, H.new, H.put, fillF, fillAt, allOne, AV.one, setArgs, evRes, resOf, ofVal, ofVal0, blt_dec, ble_dec, beq_dec, T.get_set_ite, T.get_e, isShift, ikBeq, ty_0, ty_1, ty_2, ty_3, ty_4, ty_5, ty_6, ty_7, ty_8, ty_9, ty_10, ty_11, ty_12, ty_13, ty_14, ty_15, ty_16, ty_17, ty_18, ty_19, ty_20, ty_21, ty_22, ty_23, ty_24, ty_25, ty_26, ty_27, ty_28, ty_29, ty_30, ty_31, ty_32, ty_33, ty_34, ty_35, ty_36, ty_37, ty_38, ty_39, ty_40, ty_41, ty_42, ty_43, ty_44, ty_45, ty_46, ty_47, ty_48, ty_49, ty_50, ty_51, ty_52, ty_53, ty_54, ty_55, ty_56, ty_57, ty_58, ty_59, ty_60, ty_61, ty_62, ty_63, ty_64, ty_65, ty_66, ty_67, ty_68, ty_69, ty_70, ty_71, ty_72, ty_73, ty_74, ty_75, ty_76, ty_77, ty_78, pl_3_7, pl_3_12, pl_3_14, pl_3_15, pl_3_17, pl_4_12, pl_5_7, pl_6_16, pl_6_21, pl_7_3, pl_7_7, pl_8_5, pl_12_3, pl_13_1, pl_13_11, pl_15_6, pl_16_8, pl_17_4, pl_19_5, pl_19_12, pl_24_5, pl_24_12, pl_26_1, pl_27_2, pl_28_3, pl_30_3, pl_33_2, lp, hty, hpl, h1, h3, hz, hl2, hlt', hat, hw, hcall, hb] at hx
      rw [hR] at hx
      have e : eachL (t :: l) = eachL l := by simp [eachL, hb]
      rw [e]
      exact loop26 hty hpl hl hf hd hc l (i + 1) hx hd' hlt (by simp [T.get_set_ite, h1]) (by simp [T.get_set_ite]) hz
noncomputable abbrev pd26 (d : Nat) := primVal (ofRel (Rel1 (fun t => dep t ≤ d ∧ fit t) eachF))
theorem pd26_ok : ∀ d, PrimOk Try.prog 26 (pd26 d) := prim_rec envA_ok (prim_none Try.func26 (by kernel_rfl) (by kernel_rfl) (prim_empty1 fun a h => by have := dep_pos a; have := h.1; omega)) fun d hE => by
  refine prim1_ok hE (fn := Try.f26) (by kernel_rfl) body26 (by kernel_rfl) fun t hq => ?_
  obtain ⟨hdp, hf⟩ := hq
  obtain ⟨o, n, ks⟩ := t
  simp only [dep] at hdp
  simp only [fit] at hf
  have hcall : ∀ t h, dep t ≤ d → fit t → evL (addPrim envA 26 (pd26 d)) 26 [t.av] h = some (.bool (eachF t), h) := fun t h h1 h2 =>
    prim1_call (a := t) (F := eachF) (q := fun t => dep t ≤ d ∧ fit t) (by kernel_rfl) (Enc.bare 0 t) ⟨h1, h2⟩ h
  have hk : ∀ o h, evL (addPrim envA 26 (pd26 d)) 32 [.str o] h = some (.int .i64 (kidsF o), h) := c32 (by kernel_rfl)
  generalize hEe : addPrim envA 26 (pd26 d) = E at *
  have hty : E.ty = env.ty := by rw [← hEe]; rfl
  have hpl : E.plan = env.plan := by rw [← hEe]; rfl
  have hL := fun tm h x => loop26 hty hpl (o := o) (n := n) (ks := ks) (d := d) hf.1 hf.2.2 (by omega) hcall ks 0 (tm := tm) (h := h) (x := x)
  have hl2 := avs_len ks
  have e0 : eachF (.mk o n ks) = (intBeq (kidsF o) ↑ks.length && (!ltI n 0 && ((natsBeq o varS || intBeq n 0) && eachL ks))) := by simp [eachF]
  unfold bodyL
  have hv : natsBeq o varS = natsBeq o [118, 97, 114] := rfl
  cases h1 : intBeq (kidsF o) ↑ks.length
  case false =>
    rw [e0]
    simp only [codeAt, sub, Try.f26]
    simp [cdL_seq, cdL_region, cdL_drawn, cdL_cond, cdL_block, cdL_skip, cdL_label, cdL_exit, cdL_ret, endL, evSeq, evOne, evAct, evOp, opKind, evPure, evRead, evNew, evWrite, evSlice, natOf, optVal, readAt, AV.cells, wantedA, putTm, val, allVals, evBin, evInt, evStr, evAppend, denseFrom, sizesAre, onesIn, evPlan, recheck, AV.beq_refl, H.new, H.put, fillF, fillAt, allOne, AV.one, setArgs, evRes, resOf, ofVal, ofVal0, blt_dec, ble_dec, beq_dec, T.get_set_ite, T.get_e, isShift, ikBeq, ty_0, ty_1, ty_2, ty_3, ty_4, ty_5, ty_6, ty_7, ty_8, ty_9, ty_10, ty_11, ty_12, ty_13, ty_14, ty_15, ty_16, ty_17, ty_18, ty_19, ty_20, ty_21, ty_22, ty_23, ty_24, ty_25, ty_26, ty_27, ty_28, ty_29, ty_30, ty_31, ty_32, ty_33, ty_34, ty_35, ty_36, ty_37, ty_38, ty_39, ty_40, ty_41, ty_42, ty_43, ty_44, ty_45, ty_46, ty_47, ty_48, ty_49, ty_50, ty_51, ty_52, ty_53, ty_54, ty_55, ty_56, ty_57, ty_58, ty_59, ty_60, ty_61, ty_62, ty_63, ty_64, ty_65, ty_66, ty_67, ty_68, ty_69, ty_70, ty_71, ty_72, ty_73, ty_74, ty_75, ty_76, ty_77, ty_78, pl_3_7, pl_3_12, pl_3_14, pl_3_15, pl_3_17, pl_4_12, pl_5_7, pl_6_16, pl_6_21, pl_7_3, pl_7_7, pl_8_5, pl_12_3, pl_13_1, pl_13_11, pl_15_6, pl_16_8, pl_17_4, pl_19_5, pl_19_12, pl_24_5, pl_24_12, pl_26_1, pl_27_2, pl_28_3, pl_30_3, pl_33_2, hty, hpl, Enc.enc, Ty.av, hk, hl2, h1, AV.wk]
  cases h2 : ltI n 0
  case true =>
    rw [e0]
    simp only [codeAt, sub, Try.f26]
    simp [cdL_seq, cdL_region, cdL_drawn, cdL_cond, cdL_block, cdL_skip, cdL_label, cdL_exit, cdL_ret, endL, evSeq, evOne, evAct, evOp, opKind, evPure, evRead, evNew, evWrite, evSlice, natOf, optVal, readAt, AV.cells, wantedA, putTm, val, allVals, evBin, evInt, evStr, evAppend, denseFrom, sizesAre, onesIn, evPlan, recheck, AV.beq_refl, H.new, H.put, fillF, fillAt, allOne, AV.one, setArgs, evRes, resOf, ofVal, ofVal0, blt_dec, ble_dec, beq_dec, T.get_set_ite, T.get_e, isShift, ikBeq, ty_0, ty_1, ty_2, ty_3, ty_4, ty_5, ty_6, ty_7, ty_8, ty_9, ty_10, ty_11, ty_12, ty_13, ty_14, ty_15, ty_16, ty_17, ty_18, ty_19, ty_20, ty_21, ty_22, ty_23, ty_24, ty_25, ty_26, ty_27, ty_28, ty_29, ty_30, ty_31, ty_32, ty_33, ty_34, ty_35, ty_36, ty_37, ty_38, ty_39, ty_40, ty_41, ty_42, ty_43, ty_44, ty_45, ty_46, ty_47, ty_48, ty_49, ty_50, ty_51, ty_52, ty_53, ty_54, ty_55, ty_56, ty_57, ty_58, ty_59, ty_60, ty_61, ty_62, ty_63, ty_64, ty_65, ty_66, ty_67, ty_68, ty_69, ty_70, ty_71, ty_72, ty_73, ty_74, ty_75, ty_76, ty_77, ty_78, pl_3_7, pl_3_12, pl_3_14, pl_3_15, pl_3_17, pl_4_12, pl_5_7, pl_6_16, pl_6_21, pl_7_3, pl_7_7, pl_8_5, pl_12_3, pl_13_1, pl_13_11, pl_15_6, pl_16_8, pl_17_4, pl_19_5, pl_19_12, pl_24_5, pl_24_12, pl_26_1, pl_27_2, pl_28_3, pl_30_3, pl_33_2, hty, hpl, Enc.enc, Ty.av, hk, hl2, h1, h2, AV.wk]
  rw [hv] at e0
  have fin : ∀ (v : Bool), (natsBeq o [118, 97, 114] = v) → (v = true ∨ intBeq n 0 = true) → ∃ v' h1, endL E.ty Try.f26.results.toList (cdL E 26 Try.f26.ntmps (.seq (codeAt Try.f26 [0]) (.seq (codeAt Try.f26 [1, 0]) (.seq (.seq (codeAt Try.f26 [1, 1, 0, 0]) (.block 0 (.loop b26_0))) (codeAt Try.f26 [1, 1, 1])))) (setArgs 0 [Enc.enc (Ty.mk o n ks)] .e) ⟨.e, 0⟩) = some (v', h1) ∧ v'.wk 0 (Enc.enc (eachL ks)) := by
    intro v hv1 hv2
    simp only [codeAt, sub, Try.f26]
    cases v
    case false =>
      have h4 : intBeq n 0 = true := by simpa using hv2
      simp [cdL_seq, cdL_region, cdL_drawn, cdL_cond, cdL_block, cdL_skip, cdL_label, cdL_exit, cdL_ret, endL, evSeq, evOne, evAct, evOp, opKind, evPure, evRead, evNew, evWrite, evSlice, natOf, optVal, readAt, AV.cells, wantedA, putTm, val, allVals, evBin, evInt, evStr, evAppend, denseFrom, sizesAre, onesIn, evPlan, recheck, AV.beq_refl, H.new, H.put, fillF, fillAt, allOne, AV.one, setArgs, evRes, resOf, ofVal, ofVal0, blt_dec, ble_dec, beq_dec, T.get_set_ite, T.get_e, isShift, ikBeq, ty_0, ty_1, ty_2, ty_3, ty_4, ty_5, ty_6, ty_7, ty_8, ty_9, ty_10, ty_11, ty_12, ty_13, ty_14, ty_15, ty_16, ty_17, ty_18, ty_19, ty_20, ty_21, ty_22, ty_23, ty_24, ty_25, ty_26, ty_27, ty_28, ty_29, ty_30, ty_31, ty_32, ty_33, ty_34, ty_35, ty_36, ty_37, ty_38, ty_39, ty_40, ty_41, ty_42, ty_43, ty_44, ty_45, ty_46, ty_47, ty_48, ty_49, ty_50, ty_51, ty_52, ty_53, ty_54, ty_55, ty_56, ty_57, ty_58, ty_59, ty_60, ty_61, ty_62, ty_63, ty_64, ty_65, ty_66, ty_67, ty_68, ty_69, ty_70, ty_71, ty_72, ty_73, ty_74, ty_75, ty_76, ty_77, ty_78, pl_3_7, pl_3_12, pl_3_14, pl_3_15, pl_3_17, pl_4_12, pl_5_7, pl_6_16, pl_6_21, pl_7_3, pl_7_7, pl_8_5, pl_12_3, pl_13_1, pl_13_11, pl_15_6, pl_16_8, pl_17_4, pl_19_5, pl_19_12, pl_24_5, pl_24_12, pl_26_1, pl_27_2, pl_28_3, pl_30_3, pl_33_2, hty, hpl, Enc.enc, Ty.av, hk, hl2, h1, h2, hv1, h4, bytesOf]
      generalize hx : cdL E 26 40 (.loop b26_0) _ _ = x
      obtain ⟨tm', rfl, g⟩ := hL _ _ _ hx rfl (Nat.zero_le _) (by simp [T.get_set_ite]) (by simp [T.get_set_ite]) (by simp [T.get_set_ite])
      cases hb : eachL ks with
      | true => simp [cdL_seq, cdL_region, cdL_drawn, cdL_cond, cdL_block, cdL_skip, cdL_label, cdL_exit, cdL_ret, endL, evSeq, evOne, evAct, evOp, opKind, evPure, evRead, evNew, evWrite, evSlice, natOf, optVal, readAt, AV.cells, wantedA, putTm, val, allVals, evBin, evInt, evStr, evAppend, denseFrom, sizesAre, onesIn, evPlan, recheck, AV.beq_refl, H.new, H.put, fillF, fillAt, allOne, AV.one, setArgs, evRes, resOf, ofVal, ofVal0, blt_dec, ble_dec, beq_dec, T.get_set_ite, T.get_e, isShift, ikBeq, ty_0, ty_1, ty_2, ty_3, ty_4, ty_5, ty_6, ty_7, ty_8, ty_9, ty_10, ty_11, ty_12, ty_13, ty_14, ty_15, ty_16, ty_17, ty_18, ty_19, ty_20, ty_21, ty_22, ty_23, ty_24, ty_25, ty_26, ty_27, ty_28, ty_29, ty_30, ty_31, ty_32, ty_33, ty_34, ty_35, ty_36, ty_37, ty_38, ty_39, ty_40, ty_41, ty_42, ty_43, ty_44, ty_45, ty_46, ty_47, ty_48, ty_49, ty_50, ty_51, ty_52, ty_53, ty_54, ty_55, ty_56, ty_57, ty_58, ty_59, ty_60, ty_61, ty_62, ty_63, ty_64, ty_65, ty_66, ty_67, ty_68, ty_69, ty_70, ty_71, ty_72, ty_73, ty_74, ty_75, ty_76, ty_77, ty_78, pl_3_7, pl_3_12, pl_3_14, pl_3_15, pl_3_17, pl_4_12, pl_5_7, pl_6_16, pl_6_21, pl_7_3, pl_7_7, pl_8_5, pl_12_3, pl_13_1, pl_13_11, pl_15_6, pl_16_8, pl_17_4, pl_19_5, pl_19_12, pl_24_5, pl_24_12, pl_26_1, pl_27_2, pl_28_3, pl_30_3, pl_33_2, hty, hpl, AV.wk]
      | false => simp [cdL_seq, cdL_region, cdL_drawn, cdL_cond, cdL_block, cdL_skip, cdL_label, cdL_exit, cdL_ret, endL, evSeq, evOne, evAct, evOp, opKind, evPure, evRead, evNew, evWrite, evSlice, natOf, optVal, readAt, AV.cells, wantedA, putTm, val, allVals, evBin, evInt, evStr, evAppend, denseFrom, sizesAre, onesIn, evPlan, recheck, AV.beq_refl, H.new, H.put, fillF, fillAt, allOne, AV.one, setArgs, evRes, resOf, ofVal, ofVal0, blt_dec, ble_dec, beq_dec, T.get_set_ite, T.get_e, isShift, ikBeq, ty_0, ty_1, ty_2, ty_3, ty_4, ty_5, ty_6, ty_7, ty_8, ty_9, ty_10, ty_11, ty_12, ty_13, ty_14, ty_15, ty_16, ty_17, ty_18, ty_19, ty_20, ty_21, ty_22, ty_23, ty_24, ty_25, ty_26, ty_27, ty_28, ty_29, ty_30, ty_31, ty_32, ty_33, ty_34, ty_35, ty_36, ty_37, ty_38, ty_39, ty_40, ty_41, ty_42, ty_43, ty_44, ty_45, ty_46, ty_47, ty_48, ty_49, ty_50, ty_51, ty_52, ty_53, ty_54, ty_55, ty_56, ty_57, ty_58, ty_59, ty_60, ty_61, ty_62, ty_63, ty_64, ty_65, ty_66, ty_67, ty_68, ty_69, ty_70, ty_71, ty_72, ty_73, ty_74, ty_75, ty_76, ty_77, ty_78, pl_3_7, pl_3_12, pl_3_14, pl_3_15, pl_3_17, pl_4_12, pl_5_7, pl_6_16, pl_6_21, pl_7_3, pl_7_7, pl_8_5, pl_12_3, pl_13_1, pl_13_11, pl_15_6, pl_16_8, pl_17_4, pl_19_5, pl_19_12, pl_24_5, pl_24_12, pl_26_1, pl_27_2, pl_28_3, pl_30_3, pl_33_2, hty, hpl, g hb, AV.wk]
    case true =>
      simp [cdL_seq, cdL_region, cdL_drawn, cdL_cond, cdL_block, cdL_skip, cdL_label, cdL_exit, cdL_ret, endL, evSeq, evOne, evAct, evOp, opKind, evPure, evRead, evNew, evWrite, evSlice, natOf, optVal, readAt, AV.cells, wantedA, putTm, val, allVals, evBin, evInt, evStr, evAppend, denseFrom, sizesAre, onesIn, evPlan, recheck, AV.beq_refl, H.new, H.put, fillF, fillAt, allOne, AV.one, setArgs, evRes, resOf, ofVal, ofVal0, blt_dec, ble_dec, beq_dec, T.get_set_ite, T.get_e, isShift, ikBeq, ty_0, ty_1, ty_2, ty_3, ty_4, ty_5, ty_6, ty_7, ty_8, ty_9, ty_10, ty_11, ty_12, ty_13, ty_14, ty_15, ty_16, ty_17, ty_18, ty_19, ty_20, ty_21, ty_22, ty_23, ty_24, ty_25, ty_26, ty_27, ty_28, ty_29, ty_30, ty_31, ty_32, ty_33, ty_34, ty_35, ty_36, ty_37, ty_38, ty_39, ty_40, ty_41, ty_42, ty_43, ty_44, ty_45, ty_46, ty_47, ty_48, ty_49, ty_50, ty_51, ty_52, ty_53, ty_54, ty_55, ty_56, ty_57, ty_58, ty_59, ty_60, ty_61, ty_62, ty_63, ty_64, ty_65, ty_66, ty_67, ty_68, ty_69, ty_70, ty_71, ty_72, ty_73, ty_74, ty_75, ty_76, ty_77, ty_78, pl_3_7, pl_3_12, pl_3_14, pl_3_15, pl_3_17, pl_4_12, pl_5_7, pl_6_16, pl_6_21, pl_7_3, pl_7_7, pl_8_5, pl_12_3, pl_13_1, pl_13_11, pl_15_6, pl_16_8, pl_17_4, pl_19_5, pl_19_12, pl_24_5, pl_24_12, pl_26_1, pl_27_2, pl_28_3, pl_30_3, pl_33_2, hty, hpl, Enc.enc, Ty.av, hk, hl2, h1, h2, hv1, bytesOf]
      generalize hx : cdL E 26 40 (.loop b26_0) _ _ = x
      obtain ⟨tm', rfl, g⟩ := hL _ _ _ hx rfl (Nat.zero_le _) (by simp [T.get_set_ite]) (by simp [T.get_set_ite]) (by simp [T.get_set_ite])
      cases hb : eachL ks with
      | true => simp [cdL_seq, cdL_region, cdL_drawn, cdL_cond, cdL_block, cdL_skip, cdL_label, cdL_exit, cdL_ret, endL, evSeq, evOne, evAct, evOp, opKind, evPure, evRead, evNew, evWrite, evSlice, natOf, optVal, readAt, AV.cells, wantedA, putTm, val, allVals, evBin, evInt, evStr, evAppend, denseFrom, sizesAre, onesIn, evPlan, recheck, AV.beq_refl, H.new, H.put, fillF, fillAt, allOne, AV.one, setArgs, evRes, resOf, ofVal, ofVal0, blt_dec, ble_dec, beq_dec, T.get_set_ite, T.get_e, isShift, ikBeq, ty_0, ty_1, ty_2, ty_3, ty_4, ty_5, ty_6, ty_7, ty_8, ty_9, ty_10, ty_11, ty_12, ty_13, ty_14, ty_15, ty_16, ty_17, ty_18, ty_19, ty_20, ty_21, ty_22, ty_23, ty_24, ty_25, ty_26, ty_27, ty_28, ty_29, ty_30, ty_31, ty_32, ty_33, ty_34, ty_35, ty_36, ty_37, ty_38, ty_39, ty_40, ty_41, ty_42, ty_43, ty_44, ty_45, ty_46, ty_47, ty_48, ty_49, ty_50, ty_51, ty_52, ty_53, ty_54, ty_55, ty_56, ty_57, ty_58, ty_59, ty_60, ty_61, ty_62, ty_63, ty_64, ty_65, ty_66, ty_67, ty_68, ty_69, ty_70, ty_71, ty_72, ty_73, ty_74, ty_75, ty_76, ty_77, ty_78, pl_3_7, pl_3_12, pl_3_14, pl_3_15, pl_3_17, pl_4_12, pl_5_7, pl_6_16, pl_6_21, pl_7_3, pl_7_7, pl_8_5, pl_12_3, pl_13_1, pl_13_11, pl_15_6, pl_16_8, pl_17_4, pl_19_5, pl_19_12, pl_24_5, pl_24_12, pl_26_1, pl_27_2, pl_28_3, pl_30_3, pl_33_2, hty, hpl, AV.wk]
      | false => simp [cdL_seq, cdL_region, cdL_drawn, cdL_cond, cdL_block, cdL_skip, cdL_label, cdL_exit, cdL_ret, endL, evSeq, evOne, evAct, evOp, opKind, evPure, evRead, evNew, evWrite, evSlice, natOf, optVal, readAt, AV.cells, wantedA, putTm, val, allVals, evBin, evInt, evStr, evAppend, denseFrom, sizesAre, onesIn, evPlan, recheck, AV.beq_refl, H.new, H.put, fillF, fillAt, allOne, AV.one, setArgs, evRes, resOf, ofVal, ofVal0, blt_dec, ble_dec, beq_dec, T.get_set_ite, T.get_e, isShift, ikBeq, ty_0, ty_1, ty_2, ty_3, ty_4, ty_5, ty_6, ty_7, ty_8, ty_9, ty_10, ty_11, ty_12, ty_13, ty_14, ty_15, ty_16, ty_17, ty_18, ty_19, ty_20, ty_21, ty_22, ty_23, ty_24, ty_25, ty_26, ty_27, ty_28, ty_29, ty_30, ty_31, ty_32, ty_33, ty_34, ty_35, ty_36, ty_37, ty_38, ty_39, ty_40, ty_41, ty_42, ty_43, ty_44, ty_45, ty_46, ty_47, ty_48, ty_49, ty_50, ty_51, ty_52, ty_53, ty_54, ty_55, ty_56, ty_57, ty_58, ty_59, ty_60, ty_61, ty_62, ty_63, ty_64, ty_65, ty_66, ty_67, ty_68, ty_69, ty_70, ty_71, ty_72, ty_73, ty_74, ty_75, ty_76, ty_77, ty_78, pl_3_7, pl_3_12, pl_3_14, pl_3_15, pl_3_17, pl_4_12, pl_5_7, pl_6_16, pl_6_21, pl_7_3, pl_7_7, pl_8_5, pl_12_3, pl_13_1, pl_13_11, pl_15_6, pl_16_8, pl_17_4, pl_19_5, pl_19_12, pl_24_5, pl_24_12, pl_26_1, pl_27_2, pl_28_3, pl_30_3, pl_33_2, hty, hpl, g hb, AV.wk]
  cases h3 : natsBeq o [118, 97, 114]
  case true =>
    rw [show eachF (.mk o n ks) = eachL ks by rw [e0]; simp [h1, h2, h3]]
    exact fin true h3 (.inl rfl)
  cases h4 : intBeq n 0
  case true =>
    rw [show eachF (.mk o n ks) = eachL ks by rw [e0]; simp [h1, h2, h3, h4]]
    exact fin false h3 (.inr h4)
  rw [e0]
  simp only [codeAt, sub, Try.f26]
  simp [cdL_seq, cdL_region, cdL_drawn, cdL_cond, cdL_block, cdL_skip, cdL_label, cdL_exit, cdL_ret, endL, evSeq, evOne, evAct, evOp, opKind, evPure, evRead, evNew, evWrite, evSlice, natOf, optVal, readAt, AV.cells, wantedA, putTm, val, allVals, evBin, evInt, evStr, evAppend, denseFrom, sizesAre, onesIn, evPlan, recheck, AV.beq_refl, H.new, H.put, fillF, fillAt, allOne, AV.one, setArgs, evRes, resOf, ofVal, ofVal0, blt_dec, ble_dec, beq_dec, T.get_set_ite, T.get_e, isShift, ikBeq, ty_0, ty_1, ty_2, ty_3, ty_4, ty_5, ty_6, ty_7, ty_8, ty_9, ty_10, ty_11, ty_12, ty_13, ty_14, ty_15, ty_16, ty_17, ty_18, ty_19, ty_20, ty_21, ty_22, ty_23, ty_24, ty_25, ty_26, ty_27, ty_28, ty_29, ty_30, ty_31, ty_32, ty_33, ty_34, ty_35, ty_36, ty_37, ty_38, ty_39, ty_40, ty_41, ty_42, ty_43, ty_44, ty_45, ty_46, ty_47, ty_48, ty_49, ty_50, ty_51, ty_52, ty_53, ty_54, ty_55, ty_56, ty_57, ty_58, ty_59, ty_60, ty_61, ty_62, ty_63, ty_64, ty_65, ty_66, ty_67, ty_68, ty_69, ty_70, ty_71, ty_72, ty_73, ty_74, ty_75, ty_76, ty_77, ty_78, pl_3_7, pl_3_12, pl_3_14, pl_3_15, pl_3_17, pl_4_12, pl_5_7, pl_6_16, pl_6_21, pl_7_3, pl_7_7, pl_8_5, pl_12_3, pl_13_1, pl_13_11, pl_15_6, pl_16_8, pl_17_4, pl_19_5, pl_19_12, pl_24_5, pl_24_12, pl_26_1, pl_27_2, pl_28_3, pl_30_3, pl_33_2, hty, hpl, Enc.enc, Ty.av, hk, hl2, h1, h2, h3, h4, bytesOf, AV.wk]
theorem p26_ok : PrimOk Try.prog 26 (primVal (ofRel (Rel1 fit eachF))) := prim_union pd26_ok (union1 fun a h => ⟨dep a, Nat.le_refl _, h⟩)
noncomputable abbrev p26 := primVal (ofRel (Rel1 fit eachF))
end Go.Proofs.Ytiifjjcoepgobaa.Env
