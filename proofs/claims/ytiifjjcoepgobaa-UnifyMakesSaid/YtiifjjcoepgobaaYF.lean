/- What is said of vars, and a type by it: the program's head, Of. -/
import Derived.Test.YtiifjjcoepgobaaYE
set_option autoImplicit false
set_option maxRecDepth 100000
set_option linter.unusedSimpArgs false
set_option linter.unusedVariables false
set_option linter.unusedSectionVars false
namespace Go.Proofs.Ytiifjjcoepgobaa.Env
open Go.Ev

/-! ### Plain -/
abbrev Sd := List (Int × Ty)
def look : Sd → Int → Option Ty
  | [], _ => none
  | (k, t) :: l, n => bif intBeq n k then some t else look l n
def headF : Nat → Sd → Ty → Option Ty
  | 0, _, _ => none
  | f + 1, sd, .mk o n ks => bif natsBeq o varS then (match look sd n with | none => some (.mk o n ks) | some u => headF f sd u) else some (.mk o n ks)
def ofF : Nat → Sd → Ty → Option Ty
  | 0, _, _ => none
  | f + 1, sd, t => match headF f sd t with
    | none => none
    | some (.mk o n ks) => match all0 (ofF f sd) ks with
      | none => none
      | some us => some (.mk o n us)
theorem headF_mono : ∀ {f g : Nat} {sd : Sd} {t u : Ty}, f ≤ g → headF f sd t = some u → headF g sd t = some u
  | 0, _, _, _, _, _, h => by simp [headF] at h
  | f + 1, 0, _, _, _, hg, _ => by omega
  | f + 1, g + 1, sd, .mk o n ks, u, hg, h => by
    simp only [headF] at h ⊢
    cases hv : natsBeq o varS with
    | false => rw [hv] at h; exact h
    | true =>
      rw [hv] at h
      simp only [cond_true] at h ⊢
      cases hl : look sd n with
      | none => rw [hl] at h; exact h
      | some w => rw [hl] at h; exact headF_mono (by omega) h
theorem all0_mono {α β : Type} {p q : α → Option β} (h : ∀ a b, p a = some b → q a = some b) : ∀ {l : List α} {m : List β}, all0 p l = some m → all0 q l = some m
  | [], m, e => e
  | a :: l, m, e => by
    simp only [all0] at e ⊢
    cases ha : p a with
    | none => rw [ha] at e; simp at e
    | some b =>
      rw [ha] at e
      rw [h a b ha]
      cases hl : all0 p l with
      | none => rw [hl] at e; simp at e
      | some k => rw [hl] at e; rw [all0_mono h hl]; exact e
theorem ofF_mono : ∀ {f g : Nat} {sd : Sd} {t u : Ty}, f ≤ g → ofF f sd t = some u → ofF g sd t = some u
  | 0, _, _, _, _, _, h => by simp [ofF] at h
  | f + 1, 0, _, _, _, hg, _ => by omega
  | f + 1, g + 1, sd, t, u, hg, h => by
    simp only [ofF] at h ⊢
    cases hh : headF f sd t with
    | none => rw [hh] at h; simp at h
    | some w =>
      rw [hh] at h
      rw [headF_mono (by omega) hh]
      obtain ⟨o, n, ks⟩ := w
      simp only at h ⊢
      cases ha : all0 (ofF f sd) ks with
      | none => rw [ha] at h; simp at h
      | some us =>
        rw [ha] at h
        rw [all0_mono (fun a b e => ofF_mono (by omega) e) ha]
        exact h

/-! ### The program's memory -/
def esOf (sd : Sd) : List (AV × AV) := sd.map fun p => (.int .i64 p.1, p.2.av)
structure PSub (h : H) (s m : Nat) (nx : Int) (sd : Sd) : Prop where
  cs : h.t.get s = some (.cells [.map (some m), .int .i64 nx])
  cm : h.t.get m = some (.map (esOf sd))
  hs : s < h.nx
  hm : m < h.nx
theorem mapGet_look (n : Int) : ∀ sd : Sd, mapGet (.int .i64 n) (esOf sd) = some ((look sd n).map Ty.av)
  | [] => rfl
  | (k, t) :: l => by
    simp only [esOf, List.map_cons, mapGet, keyCmp, ikBeq, cond_true, look]
    cases intBeq n k with
    | true => rfl
    | false => exact mapGet_look n l
theorem av_same {a b : Ty} (h : a.av = b.av) : a = b := Ty.av_inj (Ty.av_bare 0 a) (by rw [h]; exact Ty.av_bare 0 b)
theorem esOf_inj : ∀ {a b : Sd}, esOf a = esOf b → a = b
  | [], [], _ => rfl
  | [], _ :: _, h => by simp [esOf] at h
  | _ :: _, [], h => by simp [esOf] at h
  | (n, t) :: a, (k, u) :: b, h => by
    simp only [esOf, List.map_cons, List.cons.injEq, Prod.mk.injEq, AV.int.injEq, true_and] at h
    obtain ⟨⟨rfl, h1⟩, h2⟩ := h
    rw [av_same h1, esOf_inj h2]
theorem PSub.uniq {h : H} {s m m' : Nat} {nx nx' : Int} {sd sd' : Sd} (a : PSub h s m nx sd) (b : PSub h s m' nx' sd') : m = m' ∧ nx = nx' ∧ sd = sd' := by
  have h1 := a.cs.symm.trans b.cs
  simp at h1
  obtain ⟨rfl, rfl⟩ := h1
  have h2 := a.cm.symm.trans b.cm
  simp at h2
  exact ⟨rfl, rfl, esOf_inj h2⟩
theorem PSub.mono {h h' : H} {s m : Nat} {nx : Int} {sd : Sd} (a : PSub h s m nx sd) (hn : h.nx ≤ h'.nx) (h1 : h'.t.get s = h.t.get s) (h2 : h'.t.get m = h.t.get m) : PSub h' s m nx sd :=
  ⟨by rw [h1]; exact a.cs, by rw [h2]; exact a.cm, Nat.lt_of_lt_of_le a.hs hn, Nat.lt_of_lt_of_le a.hm hn⟩
/-- Only new objects, and one that may change. -/
def Only (b : Nat) (h h' : H) : Prop := h.nx ≤ h'.nx ∧ ∀ j, j < h.nx → j ≠ b → h'.t.get j = h.t.get j
theorem Only.trans {b : Nat} {h h' h'' : H} (a : Only b h h') (c : Only b h' h'') : Only b h h'' := ⟨Nat.le_trans a.1 c.1, fun j hj hb => by rw [c.2 j (by have := a.1; omega) hb, a.2 j hj hb]⟩

theorem av_cells (t : Ty) : ∃ o n ks, t.av = .agg [.str o, .int .i64 n, .sl .no ks] := by cases t; exact ⟨_, _, _, rfl⟩
/-! ### head -/
noncomputable def b27_0 : Code := loopOf Try.f27 0
theorem body27 : Try.f27.body = some (.seq (codeAt Try.f27 [0]) (.seq (.block 0 (.loop b27_0)) (codeAt Try.f27 [1, 1]))) := rfl
theorem loop27 {E : Env} (hty : E.ty = env.ty) (hpl : E.plan = env.plan) {s m b : Nat} {nx : Int} {sd : Sd} (hsb : s ≠ b) : ∀ (f : Nat) (t u : Ty) {tm : Tm} {h : H} {x : Option (Ex × Tm × H)}, cdL E 27 24 (.loop b27_0) tm h = x →
    headF f sd t = some u → PSub h s m nx sd → h.t.get b = some (.cells t.av.cells) → b < h.nx → tm.get 0 = some (.ptr (some (s, 0))) → tm.get 3 = some (.ptr (some (b, 0))) →
    ∃ tm' h', x = some (.exit 0, tm', h') ∧ tm'.get 3 = some (.ptr (some (b, 0))) ∧ tm'.get 4 = tm.get 4 ∧ h'.t.get b = some (.cells u.av.cells) ∧ Only b h h'
  | 0, t, u, tm, h, x, hx, hu, _, _, _, _, _ => by simp [headF] at hu
  | f + 1, .mk o n ks, u, tm, h, x, hx, hu, hp, hb, hbn, h0, h3 => by
    have hmb : m ≠ b := by rintro rfl; rw [hp.cm] at hb; cases hb
    have g1 := hp.cs
    have g2 := hp.cm
    have g3 := hp.hs
    have g4 := hp.hm
    have hsn : s ≠ h.nx := by omega
    have hmn : m ≠ h.nx := by omega
    have hbn' : b ≠ h.nx := by omega
    have hnb : h.nx ≠ b := by omega
    obtain ⟨R, hR, hx⟩ := loop_step hx
    simp only [Ty.av, AV.cells] at hb
    simp only [headF] at hu
    have hv : natsBeq o varS = natsBeq o [118, 97, 114] := rfl
    rw [hv] at hu
    have hmg := mapGet_look n sd
    cases h1 : natsBeq o [118, 97, 114] with
    | false =>
      rw [h1] at hu
      simp only [cond_false, Option.some.injEq] at hu
      subst hu
      simp [b27_0, loopOf, Try.f27, loops, cdL_seq, cdL_region, cdL_drawn, cdL_cond, cdL_block, cdL_skip, cdL_label, cdL_exit, cdL_ret, endL, evSeq, evOne, evAct, evOp, opKind, evPure, evRead, evNew, evWrite, evSlice, natOf, optVal, readAt, AV.cells, wantedA, putTm, val, allVals, evBin, evInt, evStr, evAppend, denseFrom, sizesAre, onesIn, evPlan, recheck, AV.beq_refl, H.new, H.put, fillF, fillAt, allOne, AV.one, setArgs, evRes, resOf, ofVal, ofVal0, blt_dec, ble_dec, beq_dec, T.get_set_ite, T.get_e, isShift, ikBeq, ty_0, ty_1, ty_2, ty_3, ty_4, ty_5, ty_6, ty_7, ty_8, ty_9, ty_10, ty_11, ty_12, ty_13, ty_14, ty_15, ty_16, ty_17, ty_18, ty_19, ty_20, ty_21, ty_22, ty_23, ty_24, ty_25, ty_26, ty_27, ty_28, ty_29, ty_30, ty_31, ty_32, ty_33, ty_34, ty_35, ty_36, ty_37, ty_38, ty_39, ty_40, ty_41, ty_42, ty_43, ty_44, ty_45, ty_46, ty_47, ty_48, ty_49, ty_50, ty_51, ty_52, ty_53, ty_54, ty_55, ty_56, ty_57, ty_58, ty_59, ty_60, ty_61, ty_62, ty_63, ty_64, ty_65, ty_66, ty_67, ty_68, ty_69, ty_70, ty_71, ty_72, ty_73, ty_74, ty_75, ty_76, ty_77, ty_78, pl_3_7, pl_3_12, pl_3_14, pl_3_15, pl_3_17, pl_4_12, pl_5_7, pl_6_16, pl_6_21, pl_7_3, pl_7_7, pl_8_5, pl_12_3, pl_13_1, pl_13_11, pl_15_6, pl_16_8, pl_17_4, pl_19_5, pl_19_12, pl_24_5, pl_24_12, pl_26_1, pl_27_2, pl_28_3, pl_30_3, pl_33_2, lp, hty, hpl, h0, h3, hb, h1, bytesOf] at hx
      exact ⟨_, h, by rw [← hx], by simp [T.get_set_ite, h3], by simp [T.get_set_ite], by simpa [Ty.av, AV.cells] using hb, Nat.le_refl _, fun _ _ _ => rfl⟩
    | true =>
      rw [h1] at hu
      simp only [cond_true] at hu
      cases hl : look sd n with
      | none =>
        rw [hl] at hu
        simp only [Option.some.injEq] at hu
        subst hu
        rw [hl] at hmg
        simp [b27_0, loopOf, Try.f27, loops, cdL_seq, cdL_region, cdL_drawn, cdL_cond, cdL_block, cdL_skip, cdL_label, cdL_exit, cdL_ret, endL, evSeq, evOne, evAct, evOp, opKind, evPure, evRead, evNew, evWrite, evSlice, natOf, optVal, readAt, AV.cells, wantedA, putTm, val, allVals, evBin, evInt, evStr, evAppend, denseFrom, sizesAre, onesIn, evPlan, recheck, AV.beq_refl, H.new, H.put, fillF, fillAt, allOne, AV.one, setArgs, evRes, resOf, ofVal, ofVal0, blt_dec, ble_dec, beq_dec, T.get_set_ite, T.get_e, isShift, ikBeq, ty_0, ty_1, ty_2, ty_3, ty_4, ty_5, ty_6, ty_7, ty_8, ty_9, ty_10, ty_11, ty_12, ty_13, ty_14, ty_15, ty_16, ty_17, ty_18, ty_19, ty_20, ty_21, ty_22, ty_23, ty_24, ty_25, ty_26, ty_27, ty_28, ty_29, ty_30, ty_31, ty_32, ty_33, ty_34, ty_35, ty_36, ty_37, ty_38, ty_39, ty_40, ty_41, ty_42, ty_43, ty_44, ty_45, ty_46, ty_47, ty_48, ty_49, ty_50, ty_51, ty_52, ty_53, ty_54, ty_55, ty_56, ty_57, ty_58, ty_59, ty_60, ty_61, ty_62, ty_63, ty_64, ty_65, ty_66, ty_67, ty_68, ty_69, ty_70, ty_71, ty_72, ty_73, ty_74, ty_75, ty_76, ty_77, ty_78, pl_3_7, pl_3_12, pl_3_14, pl_3_15, pl_3_17, pl_4_12, pl_5_7, pl_6_16, pl_6_21, pl_7_3, pl_7_7, pl_8_5, pl_12_3, pl_13_1, pl_13_11, pl_15_6, pl_16_8, pl_17_4, pl_19_5, pl_19_12, pl_24_5, pl_24_12, pl_26_1, pl_27_2, pl_28_3, pl_30_3, pl_33_2, lp, hty, hpl, h0, h3, hb, h1, bytesOf, g1, g2, keyOk, hmg, hsn, hmn, hbn'] at hx
        refine ⟨_, _, by rw [← hx], by simp [T.get_set_ite, h3], by simp [T.get_set_ite], by simp [T.get_set_ite, hbn', hb, Ty.av, AV.cells], by simp, fun j hj hjb => by simp only [T.get_set_ite]; rw [if_neg (by omega), if_neg (by omega)]⟩
      | some w =>
        rw [hl] at hu hmg
        simp only at hu
        obtain ⟨a0, a1, a2, ha⟩ := av_cells w
        simp only [Option.map_some, ha] at hmg
        simp [b27_0, loopOf, Try.f27, loops, cdL_seq, cdL_region, cdL_drawn, cdL_cond, cdL_block, cdL_skip, cdL_label, cdL_exit, cdL_ret, endL, evSeq, evOne, evAct, evOp, opKind, evPure, evRead, evNew, evWrite, evSlice, natOf, optVal, readAt, AV.cells, wantedA, putTm, val, allVals, evBin, evInt, evStr, evAppend, denseFrom, sizesAre, onesIn, evPlan, recheck, AV.beq_refl, H.new, H.put, fillF, fillAt, allOne, AV.one, setArgs, evRes, resOf, ofVal, ofVal0, blt_dec, ble_dec, beq_dec, T.get_set_ite, T.get_e, isShift, ikBeq, ty_0, ty_1, ty_2, ty_3, ty_4, ty_5, ty_6, ty_7, ty_8, ty_9, ty_10, ty_11, ty_12, ty_13, ty_14, ty_15, ty_16, ty_17, ty_18, ty_19, ty_20, ty_21, ty_22, ty_23, ty_24, ty_25, ty_26, ty_27, ty_28, ty_29, ty_30, ty_31, ty_32, ty_33, ty_34, ty_35, ty_36, ty_37, ty_38, ty_39, ty_40, ty_41, ty_42, ty_43, ty_44, ty_45, ty_46, ty_47, ty_48, ty_49, ty_50, ty_51, ty_52, ty_53, ty_54, ty_55, ty_56, ty_57, ty_58, ty_59, ty_60, ty_61, ty_62, ty_63, ty_64, ty_65, ty_66, ty_67, ty_68, ty_69, ty_70, ty_71, ty_72, ty_73, ty_74, ty_75, ty_76, ty_77, ty_78, pl_3_7, pl_3_12, pl_3_14, pl_3_15, pl_3_17, pl_4_12, pl_5_7, pl_6_16, pl_6_21, pl_7_3, pl_7_7, pl_8_5, pl_12_3, pl_13_1, pl_13_11, pl_15_6, pl_16_8, pl_17_4, pl_19_5, pl_19_12, pl_24_5, pl_24_12, pl_26_1, pl_27_2, pl_28_3, pl_30_3, pl_33_2, lp, hty, hpl, h0, h3, hb, h1, bytesOf, g1, g2, keyOk, hmg, hsn, hmn, hbn', hnb] at hx
        rw [hR] at hx
        obtain ⟨tm', h', e1, e2, e3, e4, e5⟩ := loop27 hty hpl (nx := nx) hsb f w u hx hu (hp.mono (by simp) (by simp [T.get_set_ite, hsn, hsb]) (by simp [T.get_set_ite, hmn, hmb])) (by simp [T.get_set_ite, ha, AV.cells]) (by simp; omega) (by simp [T.get_set_ite, h0]) (by simp [T.get_set_ite, h3])
        refine ⟨tm', h', e1, e2, by rw [e3]; simp [T.get_set_ite], e4, Only.trans ⟨by simp, fun j hj hjb => ?_⟩ e5⟩
        simp only [T.get_set_ite]
        rw [if_neg hjb, if_neg (by omega), if_neg (by omega)]
def R27 (args : List AV) (h : H) (v : AV) (hk : H) : Prop := ∃ (s m : Nat) (nx : Int) (sd : Sd) (x : AV) (t u : Ty) (f : Nat),
  args = [.ptr (some (s, 0)), x] ∧ x.wk 0 t.av ∧ PSub h s m nx sd ∧ headF f sd t = some u ∧ v = u.av ∧ hk = h
noncomputable abbrev p27 := ofRelH R27
theorem p27_ok : PrimOk Try.prog 27 p27 := prim_of envA_ok (fn := Try.f27) (by kernel_rfl) body27 fun args h v hk hr => by
  obtain ⟨s, m, nx, sd, x, t, u, f, rfl, hx, hp, hu, rfl, rfl⟩ := ofRelH_some hr
  refine ⟨rfl, [.ptr (some (s, 0)), t.av], wks_cons.2 ⟨wk_ptr hp.hs, wks1.2 (wk_mono (Nat.zero_le _) hx)⟩, ?_⟩
  have hty : envA.ty = env.ty := rfl
  have hpl : envA.plan = env.plan := rfl
  have hs := hp.hs
  have hm := hp.hm
  obtain ⟨a, b, c, e⟩ := av_cells t
  have hpm : PSub ⟨(hk.t.set hk.nx (.cells t.av.cells)).set (hk.nx + 1) (.cells [.str [], .int .i64 0, .sl .full []]), hk.nx + 1 + 1⟩ s m nx sd := hp.mono (by simp; omega) (by simp only [T.get_set_ite]; rw [if_neg (by omega), if_neg (by omega)]) (by simp only [T.get_set_ite]; rw [if_neg (by omega), if_neg (by omega)])
  have hb : ∀ (x : Option (Ex × Tm × H)) (tm : Tm), cdL envA 27 24 (.loop b27_0) tm ⟨(hk.t.set hk.nx (.cells t.av.cells)).set (hk.nx + 1) (.cells [.str [], .int .i64 0, .sl .full []]), hk.nx + 1 + 1⟩ = x → tm.get 0 = some (.ptr (some (s, 0))) → tm.get 3 = some (.ptr (some (hk.nx, 0))) →
      ∃ tm' h', x = some (.exit 0, tm', h') ∧ tm'.get 3 = some (.ptr (some (hk.nx, 0))) ∧ tm'.get 4 = tm.get 4 ∧ h'.t.get hk.nx = some (.cells u.av.cells) ∧ Only hk.nx ⟨(hk.t.set hk.nx (.cells t.av.cells)).set (hk.nx + 1) (.cells [.str [], .int .i64 0, .sl .full []]), hk.nx + 1 + 1⟩ h' := fun x tm hx h0 h3 =>
    loop27 hty hpl (by omega) f t u hx hu hpm (by simp [T.get_set_ite]) (by simp; omega) h0 h3
  rw [e] at hb ⊢
  simp only [AV.cells] at hb
  unfold bodyL
  simp only [codeAt, sub, Try.f27]
  simp [cdL_seq, cdL_region, cdL_drawn, cdL_cond, cdL_block, cdL_skip, cdL_label, cdL_exit, cdL_ret, endL, evSeq, evOne, evAct, evOp, opKind, evPure, evRead, evNew, evWrite, evSlice, natOf, optVal, readAt, AV.cells, wantedA, putTm, val, allVals, evBin, evInt, evStr, evAppend, denseFrom, sizesAre, onesIn, evPlan, recheck, AV.beq_refl, H.new, H.put, fillF, fillAt, allOne, AV.one, setArgs, evRes, resOf, ofVal, ofVal0, blt_dec, ble_dec, beq_dec, T.get_set_ite, T.get_e, isShift, ikBeq, ty_0, ty_1, ty_2, ty_3, ty_4, ty_5, ty_6, ty_7, ty_8, ty_9, ty_10, ty_11, ty_12, ty_13, ty_14, ty_15, ty_16, ty_17, ty_18, ty_19, ty_20, ty_21, ty_22, ty_23, ty_24, ty_25, ty_26, ty_27, ty_28, ty_29, ty_30, ty_31, ty_32, ty_33, ty_34, ty_35, ty_36, ty_37, ty_38, ty_39, ty_40, ty_41, ty_42, ty_43, ty_44, ty_45, ty_46, ty_47, ty_48, ty_49, ty_50, ty_51, ty_52, ty_53, ty_54, ty_55, ty_56, ty_57, ty_58, ty_59, ty_60, ty_61, ty_62, ty_63, ty_64, ty_65, ty_66, ty_67, ty_68, ty_69, ty_70, ty_71, ty_72, ty_73, ty_74, ty_75, ty_76, ty_77, ty_78, pl_3_7, pl_3_12, pl_3_14, pl_3_15, pl_3_17, pl_4_12, pl_5_7, pl_6_16, pl_6_21, pl_7_3, pl_7_7, pl_8_5, pl_12_3, pl_13_1, pl_13_11, pl_15_6, pl_16_8, pl_17_4, pl_19_5, pl_19_12, pl_24_5, pl_24_12, pl_26_1, pl_27_2, pl_28_3, pl_30_3, pl_33_2, hty, hpl]
  generalize hx' : cdL envA 27 24 (.loop b27_0) _ _ = x'
  obtain ⟨tm', h', rfl, g3, g4, gb, go⟩ := hb x' _ hx' (by simp [T.get_set_ite]) (by simp [T.get_set_ite])
  simp [T.get_set_ite] at g4
  have hz : h'.t.get (hk.nx + 1) = some (.cells [.str [], .int .i64 0, .sl .full []]) := by rw [go.2 (hk.nx + 1) (by simp) (by omega)]; simp [T.get_set_ite]
  obtain ⟨o', n', ks', eu⟩ := av_cells u
  rw [eu] at gb ⊢
  simp only [AV.cells] at gb
  simp [cdL_seq, cdL_region, cdL_drawn, cdL_cond, cdL_block, cdL_skip, cdL_label, cdL_exit, cdL_ret, endL, evSeq, evOne, evAct, evOp, opKind, evPure, evRead, evNew, evWrite, evSlice, natOf, optVal, readAt, AV.cells, wantedA, putTm, val, allVals, evBin, evInt, evStr, evAppend, denseFrom, sizesAre, onesIn, evPlan, recheck, AV.beq_refl, H.new, H.put, fillF, fillAt, allOne, AV.one, setArgs, evRes, resOf, ofVal, ofVal0, blt_dec, ble_dec, beq_dec, T.get_set_ite, T.get_e, isShift, ikBeq, ty_0, ty_1, ty_2, ty_3, ty_4, ty_5, ty_6, ty_7, ty_8, ty_9, ty_10, ty_11, ty_12, ty_13, ty_14, ty_15, ty_16, ty_17, ty_18, ty_19, ty_20, ty_21, ty_22, ty_23, ty_24, ty_25, ty_26, ty_27, ty_28, ty_29, ty_30, ty_31, ty_32, ty_33, ty_34, ty_35, ty_36, ty_37, ty_38, ty_39, ty_40, ty_41, ty_42, ty_43, ty_44, ty_45, ty_46, ty_47, ty_48, ty_49, ty_50, ty_51, ty_52, ty_53, ty_54, ty_55, ty_56, ty_57, ty_58, ty_59, ty_60, ty_61, ty_62, ty_63, ty_64, ty_65, ty_66, ty_67, ty_68, ty_69, ty_70, ty_71, ty_72, ty_73, ty_74, ty_75, ty_76, ty_77, ty_78, pl_3_7, pl_3_12, pl_3_14, pl_3_15, pl_3_17, pl_4_12, pl_5_7, pl_6_16, pl_6_21, pl_7_3, pl_7_7, pl_8_5, pl_12_3, pl_13_1, pl_13_11, pl_15_6, pl_16_8, pl_17_4, pl_19_5, pl_19_12, pl_24_5, pl_24_12, pl_26_1, pl_27_2, pl_28_3, pl_30_3, pl_33_2, hty, hpl, g3, g4, gb, hz]
  refine ⟨_, _, ⟨rfl, rfl⟩, Keep.same fun id hi => ?_, ?_⟩
  · simp only [T.get_set_ite]
    have := go.1
    simp only at this
    rw [if_neg (by omega), go.2 id (by simp; omega) (by omega)]
    simp only [T.get_set_ite]
    rw [if_neg (by omega), if_neg (by omega)]
  · have := Ty.av_bare hk.nx u
    rw [eu] at this
    exact this
end Go.Proofs.Ytiifjjcoepgobaa.Env
