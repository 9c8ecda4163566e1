/- The program's has as a primitive; says. -/
import Derived.Test.YtiifjjcoepgobaaYH
set_option autoImplicit false
set_option maxRecDepth 100000
set_option linter.unusedSimpArgs false
set_option linter.unusedVariables false
set_option linter.unusedSectionVars false
namespace Go.Proofs.Ytiifjjcoepgobaa.Env
open Go.Ev

/-- New objects, and two that may change. -/
def Only2 (a b : Nat) (h h' : H) : Prop := h.nx ≤ h'.nx ∧ ∀ j, j < h.nx → j ≠ a → j ≠ b → h'.t.get j = h.t.get j
theorem Only2.trans {a b : Nat} {h h' h'' : H} (x : Only2 a b h h') (y : Only2 a b h' h'') : Only2 a b h h'' := ⟨Nat.le_trans x.1 y.1, fun j hj h1 h2 => by rw [y.2 j (by have := x.1; omega) h1 h2, x.2 j hj h1 h2]⟩
theorem keep_put {h h1 : H} {q : Nat} {o : Ev.Obj} (hq : q < h.nx) (hs : ∀ id, id < h.nx → id ≠ q → h1.t.get id = h.t.get id) (h1q : h1.t.get q = some o) (hw : ∀ n, o.wk n o) : Keep h h1 (h.put q o) where
  nx := rfl
  top := fun id o' ho => by
    simp only [H.put, T.get_set_ite] at ho
    by_cases e : id = q
    · exact .inl (by omega)
    · rw [if_neg e] at ho; exact .inr ⟨o', ho⟩
  obj := fun id hi => by
    by_cases e : id = q
    · subst e
      exact .inr ⟨o, o, h1q, by simp [H.put, T.get_set_ite], hw _, fun _ => rfl⟩
    · exact .inl ⟨by simp only [H.put, T.get_set_ite]; rw [if_neg e], hs id hi e⟩
theorem map_wk {n : Nat} {es : List (AV × AV)} (h : ∀ p ∈ es, p.1.wk n p.1 ∧ p.2.wk n p.2) : (Ev.Obj.map es).wk n (.map es) := by
  simp only [Obj.wk]
  refine ⟨es, rfl, rfl, fun i k x k' x' h1 h2 => ?_⟩
  rw [h1] at h2
  cases h2
  exact h (k, x) (List.mem_of_getElem? h1)
theorem esB_wk (n : Nat) (l : List Int) : (Ev.Obj.map (esB l)).wk n (.map (esB l)) := map_wk fun p hp => by
  obtain ⟨k, _, rfl⟩ := List.mem_map.1 hp
  simp [AV.wk]
theorem esOf_wk (n : Nat) (l : Sd) : (Ev.Obj.map (esOf l)).wk n (.map (esOf l)) := map_wk fun p hp => by
  obtain ⟨k, _, rfl⟩ := List.mem_map.1 hp
  exact ⟨by simp [AV.wk], Ty.av_bare n k.2⟩
noncomputable def b33_0 : Code := loopOf Try.f33 0
theorem body33 : Try.f33.body = some (.seq (codeAt Try.f33 [0]) (.seq (.block 0 (.loop b33_0)) (codeAt Try.f33 [1, 1]))) := rfl
theorem loop33 {E : Env} (hty : E.ty = env.ty) (hpl : E.plan = env.plan) {s m q b4 b5 b6 b7 : Nat} {n nx : Int} {sd : Sd} (hsg : ∀ p ∈ sd, good p.2) {b : Bool} {seen' : List Int} (hs5 : b5 ≠ s) (h54 : b5 ≠ b4) (h56 : b5 ≠ b6) (h57 : b5 ≠ b7) :
    ∀ (f : Nat) (t : Ty) (seen : List Int) {tm : Tm} {h : H} {x : Option (Ex × Tm × H)}, cdL E 33 44 (.loop b33_0) tm h = x → good t → hasF f sd n seen t = some (b, seen') → Boxes h s m q b4 b6 b7 n nx sd → h.t.get q = some (.map (esB seen)) → h.t.get b5 = some (.cells t.av.cells) → b5 < h.nx →
    tm.get 4 = some (.ptr (some (b4, 0))) → tm.get 5 = some (.ptr (some (b5, 0))) → tm.get 6 = some (.ptr (some (b6, 0))) → tm.get 7 = some (.ptr (some (b7, 0))) →
    ∃ tm' h', Only2 b5 q h h' ∧ Boxes h' s m q b4 b6 b7 n nx sd ∧
      ((x = some (.ret, tm', h') ∧ tm'.get 8 = some (.bool b) ∧ h'.t.get q = some (.map (esB seen'))) ∨
       ∃ (t' : Ty) (seen1 : List Int) (f' : Nat), x = some (.exit 0, tm', h') ∧ good t' ∧ f' < f ∧ h'.t.get b5 = some (.cells t'.av.cells) ∧ h'.t.get q = some (.map (esB seen1)) ∧ anyF (hasF f' sd n) seen1 t'.kids = some (b, seen') ∧
        tm'.get 4 = some (.ptr (some (b4, 0))) ∧ tm'.get 5 = some (.ptr (some (b5, 0))) ∧ tm'.get 6 = some (.ptr (some (b6, 0))) ∧ tm'.get 7 = some (.ptr (some (b7, 0))))
  | 0, t, seen, tm, h, x, hx, hgt, hh, _, _, _, _, _, _, _, _ => by simp [hasF] at hh
  | f + 1, .mk o v ks, seen, tm, h, x, hx, hgt, hh, hb, hq, h5c, h5l, h4, h5, h6, h7 => by
    have c4 := hb.c4
    have c6 := hb.c6
    have c7 := hb.c7
    have cs := hb.ps.cs
    have cm := hb.ps.cm
    have l4 := hb.l4
    have l6 := hb.l6
    have l7 := hb.l7
    have lq := hb.lq
    have ls := hb.ps.hs
    have lm := hb.ps.hm
    have q5 : b5 ≠ q := by rintro rfl; rw [h5c] at hq; cases hq
    have q5' : q ≠ b5 := Ne.symm q5
    have m5 : m ≠ b5 := by rintro rfl; rw [h5c] at cm; cases cm
    have q4 : b4 ≠ q := by rintro rfl; rw [c4] at hq; cases hq
    have q6 : b6 ≠ q := by rintro rfl; rw [c6] at hq; cases hq
    have q7 : b7 ≠ q := by rintro rfl; rw [c7] at hq; cases hq
    have qs : s ≠ q := by rintro rfl; rw [cs] at hq; cases hq
    have qm := hb.qm
    have n4 : b4 ≠ h.nx := by omega
    have n5 : b5 ≠ h.nx := by omega
    have n6 : b6 ≠ h.nx := by omega
    have n7 : b7 ≠ h.nx := by omega
    have nq : q ≠ h.nx := by omega
    have ns : s ≠ h.nx := by omega
    have nm : m ≠ h.nx := by omega
    have n5' : h.nx ≠ b5 := Ne.symm n5
    have nq' : h.nx ≠ q := Ne.symm nq
    obtain ⟨R, hR, hx⟩ := loop_step hx
    have h5c' := h5c
    simp only [Ty.av, AV.cells] at h5c
    simp only [hasF] at hh
    have hv : natsBeq o varS = natsBeq o [118, 97, 114] := rfl
    rw [hv] at hh
    have hmg := mapGet_look v sd
    have hms := mapGet_seen v seen
    cases h1 : natsBeq o [118, 97, 114] with
    | false =>
      rw [h1] at hh
      simp [b33_0, loopOf, Try.f33, loops, cdL_seq, cdL_region, cdL_drawn, cdL_cond, cdL_block, cdL_skip, cdL_label, cdL_exit, cdL_ret, endL, evSeq, evOne, evAct, evOp, opKind, evPure, evRead, evNew, evWrite, evSlice, natOf, optVal, readAt, AV.cells, wantedA, putTm, val, allVals, evBin, evInt, evStr, evAppend, denseFrom, sizesAre, onesIn, evPlan, recheck, AV.beq_refl, H.new, H.put, fillF, fillAt, allOne, AV.one, setArgs, evRes, resOf, ofVal, ofVal0, blt_dec, ble_dec, beq_dec, T.get_set_ite, T.get_e, isShift, ikBeq, ty_0, ty_1, ty_2, ty_3, ty_4, ty_5, ty_6, ty_7, ty_8, ty_9, ty_10, ty_11, ty_12, ty_13, ty_14, ty_15, ty_16, ty_17, ty_18, ty_19, ty_20, ty_21, ty_22, ty_23, ty_24, ty_25, ty_26, ty_27, ty_28, ty_29, ty_30, ty_31, ty_32, ty_33, ty_34, ty_35, ty_36, ty_37, ty_38, ty_39, ty_40, ty_41, ty_42, ty_43, ty_44, ty_45, ty_46, ty_47, ty_48, ty_49, ty_50, ty_51, ty_52, ty_53, ty_54, ty_55, ty_56, ty_57, ty_58, ty_59, ty_60, ty_61, ty_62, ty_63, ty_64, ty_65, ty_66, ty_67, ty_68, ty_69, ty_70, ty_71, ty_72, ty_73, ty_74, ty_75, ty_76, ty_77, ty_78, pl_3_7, pl_3_12, pl_3_14, pl_3_15, pl_3_17, pl_4_12, pl_5_7, pl_6_16, pl_6_21, pl_7_3, pl_7_7, pl_8_5, pl_12_3, pl_13_1, pl_13_11, pl_15_6, pl_16_8, pl_17_4, pl_19_5, pl_19_12, pl_24_5, pl_24_12, pl_26_1, pl_27_2, pl_28_3, pl_30_3, pl_33_2, lp, hty, hpl, h4, h5, h6, h7, h5c, h1, bytesOf] at hx
      exact ⟨_, h, ⟨Nat.le_refl _, fun _ _ _ _ => rfl⟩, hb, .inr ⟨.mk o v ks, seen, f, hx.symm, hgt, by omega, h5c', hq, hh, by simp [T.get_set_ite, h4], by simp [T.get_set_ite, h5], by simp [T.get_set_ite, h6], by simp [T.get_set_ite, h7]⟩⟩
    | true =>
      rw [h1] at hh
      simp only [cond_true] at hh
      cases hl : look sd v with
      | none =>
        rw [hl] at hh hmg
        simp only [Option.some.injEq, Prod.mk.injEq] at hh
        obtain ⟨rfl, rfl⟩ := hh
        simp [b33_0, loopOf, Try.f33, loops, cdL_seq, cdL_region, cdL_drawn, cdL_cond, cdL_block, cdL_skip, cdL_label, cdL_exit, cdL_ret, endL, evSeq, evOne, evAct, evOp, opKind, evPure, evRead, evNew, evWrite, evSlice, natOf, optVal, readAt, AV.cells, wantedA, putTm, val, allVals, evBin, evInt, evStr, evAppend, denseFrom, sizesAre, onesIn, evPlan, recheck, AV.beq_refl, H.new, H.put, fillF, fillAt, allOne, AV.one, setArgs, evRes, resOf, ofVal, ofVal0, blt_dec, ble_dec, beq_dec, T.get_set_ite, T.get_e, isShift, ikBeq, ty_0, ty_1, ty_2, ty_3, ty_4, ty_5, ty_6, ty_7, ty_8, ty_9, ty_10, ty_11, ty_12, ty_13, ty_14, ty_15, ty_16, ty_17, ty_18, ty_19, ty_20, ty_21, ty_22, ty_23, ty_24, ty_25, ty_26, ty_27, ty_28, ty_29, ty_30, ty_31, ty_32, ty_33, ty_34, ty_35, ty_36, ty_37, ty_38, ty_39, ty_40, ty_41, ty_42, ty_43, ty_44, ty_45, ty_46, ty_47, ty_48, ty_49, ty_50, ty_51, ty_52, ty_53, ty_54, ty_55, ty_56, ty_57, ty_58, ty_59, ty_60, ty_61, ty_62, ty_63, ty_64, ty_65, ty_66, ty_67, ty_68, ty_69, ty_70, ty_71, ty_72, ty_73, ty_74, ty_75, ty_76, ty_77, ty_78, pl_3_7, pl_3_12, pl_3_14, pl_3_15, pl_3_17, pl_4_12, pl_5_7, pl_6_16, pl_6_21, pl_7_3, pl_7_7, pl_8_5, pl_12_3, pl_13_1, pl_13_11, pl_15_6, pl_16_8, pl_17_4, pl_19_5, pl_19_12, pl_24_5, pl_24_12, pl_26_1, pl_27_2, pl_28_3, pl_30_3, pl_33_2, lp, hty, hpl, h4, h5, h6, h7, h5c, h1, bytesOf, c4, c6, c7, cs, cm, keyOk, hmg, n4, n5, n6, n7, ns, nm] at hx
        refine ⟨_, _, ⟨?_, fun j hj e1 e2 => ?_⟩, ?_, .inl ⟨hx.symm, by simp [T.get_set_ite], ?_⟩⟩
        · simp
        · simp only [T.get_set_ite]; rw [if_neg (by omega), if_neg (by omega)]
        · exact hb.mono hq ⟨by simp, fun j hj _ => by simp only [T.get_set_ite]; rw [if_neg (by omega), if_neg (by omega)]⟩
        · simp [T.get_set_ite, nq, hq]
      | some u =>
        rw [hl] at hh hmg
        simp only at hh
        obtain ⟨a0, a1, a2, ha⟩ := av_cells u
        simp only [Option.map_some, ha] at hmg
        cases hsn : hasI seen v with
        | true =>
          rw [hsn] at hh hms
          simp only [cond_true, Option.some.injEq, Prod.mk.injEq] at hh hms
          obtain ⟨rfl, rfl⟩ := hh
          simp [b33_0, loopOf, Try.f33, loops, cdL_seq, cdL_region, cdL_drawn, cdL_cond, cdL_block, cdL_skip, cdL_label, cdL_exit, cdL_ret, endL, evSeq, evOne, evAct, evOp, opKind, evPure, evRead, evNew, evWrite, evSlice, natOf, optVal, readAt, AV.cells, wantedA, putTm, val, allVals, evBin, evInt, evStr, evAppend, denseFrom, sizesAre, onesIn, evPlan, recheck, AV.beq_refl, H.new, H.put, fillF, fillAt, allOne, AV.one, setArgs, evRes, resOf, ofVal, ofVal0, blt_dec, ble_dec, beq_dec, T.get_set_ite, T.get_e, isShift, ikBeq, ty_0, ty_1, ty_2, ty_3, ty_4, ty_5, ty_6, ty_7, ty_8, ty_9, ty_10, ty_11, ty_12, ty_13, ty_14, ty_15, ty_16, ty_17, ty_18, ty_19, ty_20, ty_21, ty_22, ty_23, ty_24, ty_25, ty_26, ty_27, ty_28, ty_29, ty_30, ty_31, ty_32, ty_33, ty_34, ty_35, ty_36, ty_37, ty_38, ty_39, ty_40, ty_41, ty_42, ty_43, ty_44, ty_45, ty_46, ty_47, ty_48, ty_49, ty_50, ty_51, ty_52, ty_53, ty_54, ty_55, ty_56, ty_57, ty_58, ty_59, ty_60, ty_61, ty_62, ty_63, ty_64, ty_65, ty_66, ty_67, ty_68, ty_69, ty_70, ty_71, ty_72, ty_73, ty_74, ty_75, ty_76, ty_77, ty_78, pl_3_7, pl_3_12, pl_3_14, pl_3_15, pl_3_17, pl_4_12, pl_5_7, pl_6_16, pl_6_21, pl_7_3, pl_7_7, pl_8_5, pl_12_3, pl_13_1, pl_13_11, pl_15_6, pl_16_8, pl_17_4, pl_19_5, pl_19_12, pl_24_5, pl_24_12, pl_26_1, pl_27_2, pl_28_3, pl_30_3, pl_33_2, lp, hty, hpl, h4, h5, h6, h7, h5c, h1, bytesOf, c4, c6, c7, cs, cm, keyOk, hmg, hms, hq, n4, n5, n6, n7, ns, nm, nq] at hx
          refine ⟨_, _, ⟨?_, fun j hj e1 e2 => ?_⟩, ?_, .inl ⟨hx.symm, by simp [T.get_set_ite], ?_⟩⟩
          · simp
          · simp only [T.get_set_ite]; rw [if_neg (by omega), if_neg (by omega)]
          · exact hb.mono hq ⟨by simp, fun j hj _ => by simp only [T.get_set_ite]; rw [if_neg (by omega), if_neg (by omega)]⟩
          · simp [T.get_set_ite, nq, hq]
        | false =>
          rw [hsn] at hh hms
          simp only [cond_false] at hh hms
          have hmp := mapPut_seen v hsn
          simp [b33_0, loopOf, Try.f33, loops, cdL_seq, cdL_region, cdL_drawn, cdL_cond, cdL_block, cdL_skip, cdL_label, cdL_exit, cdL_ret, endL, evSeq, evOne, evAct, evOp, opKind, evPure, evRead, evNew, evWrite, evSlice, natOf, optVal, readAt, AV.cells, wantedA, putTm, val, allVals, evBin, evInt, evStr, evAppend, denseFrom, sizesAre, onesIn, evPlan, recheck, AV.beq_refl, H.new, H.put, fillF, fillAt, allOne, AV.one, setArgs, evRes, resOf, ofVal, ofVal0, blt_dec, ble_dec, beq_dec, T.get_set_ite, T.get_e, isShift, ikBeq, ty_0, ty_1, ty_2, ty_3, ty_4, ty_5, ty_6, ty_7, ty_8, ty_9, ty_10, ty_11, ty_12, ty_13, ty_14, ty_15, ty_16, ty_17, ty_18, ty_19, ty_20, ty_21, ty_22, ty_23, ty_24, ty_25, ty_26, ty_27, ty_28, ty_29, ty_30, ty_31, ty_32, ty_33, ty_34, ty_35, ty_36, ty_37, ty_38, ty_39, ty_40, ty_41, ty_42, ty_43, ty_44, ty_45, ty_46, ty_47, ty_48, ty_49, ty_50, ty_51, ty_52, ty_53, ty_54, ty_55, ty_56, ty_57, ty_58, ty_59, ty_60, ty_61, ty_62, ty_63, ty_64, ty_65, ty_66, ty_67, ty_68, ty_69, ty_70, ty_71, ty_72, ty_73, ty_74, ty_75, ty_76, ty_77, ty_78, pl_3_7, pl_3_12, pl_3_14, pl_3_15, pl_3_17, pl_4_12, pl_5_7, pl_6_16, pl_6_21, pl_7_3, pl_7_7, pl_8_5, pl_12_3, pl_13_1, pl_13_11, pl_15_6, pl_16_8, pl_17_4, pl_19_5, pl_19_12, pl_24_5, pl_24_12, pl_26_1, pl_27_2, pl_28_3, pl_30_3, pl_33_2, lp, hty, hpl, h4, h5, h6, h7, h5c, h1, bytesOf, c4, c6, c7, cs, cm, keyOk, hmg, hms, hmp, evUpd, hq, n4, n5, n6, n7, ns, nm, nq, n5', nq', q4, q5, q5', q6, q7] at hx
          rw [hR] at hx
          obtain ⟨p, hp1, hp2⟩ := look_mem hl
          have hgu : good u := by rw [← hp2]; exact hsg p hp1
          have hq2 : Only2 b5 q h ⟨(((h.t.set h.nx (.cells [.str [], .int .i64 0, .sl .full []])).set h.nx (.cells [.str a0, .int .i64 a1, .sl .no a2])).set q (.map (esB (seen ++ [v])))).set b5 (.cells [.str a0, .int .i64 a1, .sl .no a2]), h.nx + 1⟩ :=
            ⟨by simp, fun j hj e1 e2 => by simp only [T.get_set_ite]; rw [if_neg e1, if_neg e2, if_neg (by omega), if_neg (by omega)]⟩
          have hb2 : Boxes ⟨(((h.t.set h.nx (.cells [.str [], .int .i64 0, .sl .full []])).set h.nx (.cells [.str a0, .int .i64 a1, .sl .no a2])).set q (.map (esB (seen ++ [v])))).set b5 (.cells [.str a0, .int .i64 a1, .sl .no a2]), h.nx + 1⟩ s m q b4 b6 b7 n nx sd :=
            ⟨hb.ps.mono (by simp) (hq2.2 s ls (Ne.symm hs5) qs) (hq2.2 m lm m5 (Ne.symm qm)), by rw [hq2.2 b4 l4 (Ne.symm h54) q4]; exact c4, by rw [hq2.2 b6 l6 (Ne.symm h56) q6]; exact c6, by rw [hq2.2 b7 l7 (Ne.symm h57) q7]; exact c7, by simp; omega, by simp; omega, by simp; omega, by simp; omega, qm⟩
          obtain ⟨tm', h', o1, bb, res⟩ := loop33 hty hpl (nx := nx) hsg hs5 h54 h56 h57 f u (seen ++ [v]) hx hgu hh hb2 (by simp [T.get_set_ite, q5']) (by simp [T.get_set_ite, ha, AV.cells]) (by simp; omega) (by simp [T.get_set_ite, h4]) (by simp [T.get_set_ite, h5]) (by simp [T.get_set_ite, h6]) (by simp [T.get_set_ite, h7])
          refine ⟨tm', h', hq2.trans o1, bb, ?_⟩
          rcases res with r | ⟨t', s1, f', e1, e2, e3, e4⟩
          · exact .inl r
          · exact .inr ⟨t', s1, f', e1, e2, by omega, e4⟩
theorem pd33_ok : ∀ d, PrimOk Try.prog 33 (pd33 d) := prim_rec envA_ok (prim_none Try.func33 (by kernel_rfl) (by kernel_rfl) fun a h => by
    cases he : pd33 0 a h with
    | none => rfl
    | some r =>
      obtain ⟨v, k⟩ := r
      obtain ⟨s, m, q, nx, sd, x, t, n, seen, seen', b, h1, h2, h3, h4, h5, h6, h7, h8, h9, h10⟩ := ofRelH_some he
      simp [hasF] at h9) fun d hE => prim_of hE (fn := Try.f33) (by kernel_rfl) body33 fun args h v hk hr => by
  obtain ⟨s, m, q, nx, sd, x, t, n, seen, seen', b, rfl, hx, hgt, hs, hsg, hq, hql, hqm, hh, rfl, rfl⟩ := ofRelH_some hr
  refine ⟨rfl, [.ptr (some (s, 0)), t.av, .int .i64 n, .map (some q)], wks_cons.2 ⟨wk_ptr hs.hs, wks_cons.2 ⟨wk_mono (Nat.zero_le _) hx, wks_cons.2 ⟨by simp [AV.wk], wks1.2 (by simp [AV.wk, hql])⟩⟩⟩, ?_⟩
  have hprim : (addPrim envA 33 (pd33 d)).prim 33 = some (pd33 d) := by kernel_rfl
  have k1 : (addPrim envA 33 (pd33 d)).prim 34 = none := by kernel_rfl
  have k2 : (addPrim envA 33 (pd33 d)).prim 35 = none := by kernel_rfl
  have k3 : (addPrim envA 33 (pd33 d)).prim 36 = none := by kernel_rfl
  have k4 : (addPrim envA 33 (pd33 d)).fns 34 = some Try.f34 := by kernel_rfl
  have k5 : (addPrim envA 33 (pd33 d)).fns 35 = some Try.f35 := by kernel_rfl
  have k6 : (addPrim envA 33 (pd33 d)).fns 36 = some Try.f36 := by kernel_rfl
  generalize hEe : addPrim envA 33 (pd33 d) = E at *
  have hty : E.ty = env.ty := by rw [← hEe]; rfl
  have hpl : E.plan = env.plan := by rw [← hEe]; rfl
  have hls := hs.hs
  have hlm := hs.hm
  have hL := fun (x2 : Option (Ex × Tm × H)) tm2 h2 => loop33 (tm := tm2) (h := h2) (x := x2) hty hpl (s := s) (n := n) (m := m) (q := q) (b4 := h.nx) (b5 := h.nx + 1) (b6 := h.nx + 1 + 1) (b7 := h.nx + 1 + 1 + 1) (nx := nx) hsg (b := b) (seen' := seen') (by omega) (by omega) (by omega) (by omega) (d + 1) t seen
  have fin : ∀ h1 : H, Only2 (h.nx + 1) q ⟨(((h.t.set h.nx (.cells [.ptr (some (s, 0))])).set (h.nx + 1) (.cells t.av.cells)).set (h.nx + 1 + 1) (.cells [.int .i64 n])).set (h.nx + 1 + 1 + 1) (.cells [.map (some q)]), h.nx + 1 + 1 + 1 + 1⟩ h1 → h1.t.get q = some (.map (esB seen')) → Keep h h1 (h.put q (.map (esB seen'))) := fun h1 o2 hq1 =>
    keep_put hql (fun id hi hiq => by
      rw [o2.2 id (by simp; omega) (by omega) hiq]
      simp only [T.get_set_ite]
      rw [if_neg (by omega), if_neg (by omega), if_neg (by omega), if_neg (by omega)]) hq1 (fun k => esB_wk k seen')
  obtain ⟨t0, t1, t2, ht⟩ := av_cells t
  rw [ht] at fin ⊢
  simp only [AV.cells] at fin
  unfold bodyL
  simp only [codeAt, sub, Try.f33]
  simp [cdL_seq, cdL_region, cdL_drawn, cdL_cond, cdL_block, cdL_skip, cdL_label, cdL_exit, cdL_ret, endL, evSeq, evOne, evAct, evOp, opKind, evPure, evRead, evNew, evWrite, evSlice, natOf, optVal, readAt, AV.cells, wantedA, putTm, val, allVals, evBin, evInt, evStr, evAppend, denseFrom, sizesAre, onesIn, evPlan, recheck, AV.beq_refl, H.new, H.put, fillF, fillAt, allOne, AV.one, setArgs, evRes, resOf, ofVal, ofVal0, blt_dec, ble_dec, beq_dec, T.get_set_ite, T.get_e, isShift, ikBeq, ty_0, ty_1, ty_2, ty_3, ty_4, ty_5, ty_6, ty_7, ty_8, ty_9, ty_10, ty_11, ty_12, ty_13, ty_14, ty_15, ty_16, ty_17, ty_18, ty_19, ty_20, ty_21, ty_22, ty_23, ty_24, ty_25, ty_26, ty_27, ty_28, ty_29, ty_30, ty_31, ty_32, ty_33, ty_34, ty_35, ty_36, ty_37, ty_38, ty_39, ty_40, ty_41, ty_42, ty_43, ty_44, ty_45, ty_46, ty_47, ty_48, ty_49, ty_50, ty_51, ty_52, ty_53, ty_54, ty_55, ty_56, ty_57, ty_58, ty_59, ty_60, ty_61, ty_62, ty_63, ty_64, ty_65, ty_66, ty_67, ty_68, ty_69, ty_70, ty_71, ty_72, ty_73, ty_74, ty_75, ty_76, ty_77, ty_78, pl_3_7, pl_3_12, pl_3_14, pl_3_15, pl_3_17, pl_4_12, pl_5_7, pl_6_16, pl_6_21, pl_7_3, pl_7_7, pl_8_5, pl_12_3, pl_13_1, pl_13_11, pl_15_6, pl_16_8, pl_17_4, pl_19_5, pl_19_12, pl_24_5, pl_24_12, pl_26_1, pl_27_2, pl_28_3, pl_30_3, pl_33_2, nq2, nq3, nq4, nq5, nr2, nr3, nr4, nr5, hty, hpl]
  generalize hx' : cdL E 33 44 (.loop b33_0) _ _ = x'
  obtain ⟨tm', h', o2, bb, res⟩ := hL x' _ _ hx' hgt hh
    ⟨hs.mono (by simp; omega) (by simp only [T.get_set_ite]; rw [if_neg (by omega), if_neg (by omega), if_neg (by omega), if_neg (by omega)]) (by simp only [T.get_set_ite]; rw [if_neg (by omega), if_neg (by omega), if_neg (by omega), if_neg (by omega)]),
      by simp [T.get_set_ite, nq2, nq3, nq4, nq5, nr2, nr3, nr4, nr5], by simp [T.get_set_ite, nq2, nq3, nq4, nq5, nr2, nr3, nr4, nr5], by simp [T.get_set_ite, nq2, nq3, nq4, nq5, nr2, nr3, nr4, nr5], by simp; omega, by simp, by simp, by simp; omega, hqm⟩
    (by simp only [T.get_set_ite]; rw [if_neg (by omega), if_neg (by omega), if_neg (by omega), if_neg (by omega)]; exact hq) (by simp [T.get_set_ite, nq2, nq3, nq4, nq5, nr2, nr3, nr4, nr5, ht, AV.cells]) (by simp) (by simp [T.get_set_ite]) (by simp [T.get_set_ite]) (by simp [T.get_set_ite]) (by simp [T.get_set_ite])
  rcases res with ⟨rfl, g8, gq⟩ | ⟨t', s1, f', rfl, e1, e2, e3, e4, e5, g4, g5, g6, g7⟩
  · simp [cdL_seq, cdL_region, cdL_drawn, cdL_cond, cdL_block, cdL_skip, cdL_label, cdL_exit, cdL_ret, endL, evSeq, evOne, evAct, evOp, opKind, evPure, evRead, evNew, evWrite, evSlice, natOf, optVal, readAt, AV.cells, wantedA, putTm, val, allVals, evBin, evInt, evStr, evAppend, denseFrom, sizesAre, onesIn, evPlan, recheck, AV.beq_refl, H.new, H.put, fillF, fillAt, allOne, AV.one, setArgs, evRes, resOf, ofVal, ofVal0, blt_dec, ble_dec, beq_dec, T.get_set_ite, T.get_e, isShift, ikBeq, ty_0, ty_1, ty_2, ty_3, ty_4, ty_5, ty_6, ty_7, ty_8, ty_9, ty_10, ty_11, ty_12, ty_13, ty_14, ty_15, ty_16, ty_17, ty_18, ty_19, ty_20, ty_21, ty_22, ty_23, ty_24, ty_25, ty_26, ty_27, ty_28, ty_29, ty_30, ty_31, ty_32, ty_33, ty_34, ty_35, ty_36, ty_37, ty_38, ty_39, ty_40, ty_41, ty_42, ty_43, ty_44, ty_45, ty_46, ty_47, ty_48, ty_49, ty_50, ty_51, ty_52, ty_53, ty_54, ty_55, ty_56, ty_57, ty_58, ty_59, ty_60, ty_61, ty_62, ty_63, ty_64, ty_65, ty_66, ty_67, ty_68, ty_69, ty_70, ty_71, ty_72, ty_73, ty_74, ty_75, ty_76, ty_77, ty_78, pl_3_7, pl_3_12, pl_3_14, pl_3_15, pl_3_17, pl_4_12, pl_5_7, pl_6_16, pl_6_21, pl_7_3, pl_7_7, pl_8_5, pl_12_3, pl_13_1, pl_13_11, pl_15_6, pl_16_8, pl_17_4, pl_19_5, pl_19_12, pl_24_5, pl_24_12, pl_26_1, pl_27_2, pl_28_3, pl_30_3, pl_33_2, hty, hpl, g8]
    exact ⟨_, _, ⟨rfl, rfl⟩, fin h' o2 gq, by simp [AV.wk]⟩
  · obtain ⟨o', v', ks'⟩ := t'
    simp only [good] at e1
    simp only [Ty.kids] at e5
    simp only [Ty.av, AV.cells] at e3
    obtain ⟨h2, r1, r2, r3⟩ := any_run hty hpl k2 k5 k3 k6 k1 k4 (d := d) (has33_of hprim) hsg e1.1 e1.2 bb e4 (anyF_mono (fun s t r e => hasF_mono (by omega) e) e5)
    simp [cdL_seq, cdL_region, cdL_drawn, cdL_cond, cdL_block, cdL_skip, cdL_label, cdL_exit, cdL_ret, endL, evSeq, evOne, evAct, evOp, opKind, evPure, evRead, evNew, evWrite, evSlice, natOf, optVal, readAt, AV.cells, wantedA, putTm, val, allVals, evBin, evInt, evStr, evAppend, denseFrom, sizesAre, onesIn, evPlan, recheck, AV.beq_refl, H.new, H.put, fillF, fillAt, allOne, AV.one, setArgs, evRes, resOf, ofVal, ofVal0, blt_dec, ble_dec, beq_dec, T.get_set_ite, T.get_e, isShift, ikBeq, ty_0, ty_1, ty_2, ty_3, ty_4, ty_5, ty_6, ty_7, ty_8, ty_9, ty_10, ty_11, ty_12, ty_13, ty_14, ty_15, ty_16, ty_17, ty_18, ty_19, ty_20, ty_21, ty_22, ty_23, ty_24, ty_25, ty_26, ty_27, ty_28, ty_29, ty_30, ty_31, ty_32, ty_33, ty_34, ty_35, ty_36, ty_37, ty_38, ty_39, ty_40, ty_41, ty_42, ty_43, ty_44, ty_45, ty_46, ty_47, ty_48, ty_49, ty_50, ty_51, ty_52, ty_53, ty_54, ty_55, ty_56, ty_57, ty_58, ty_59, ty_60, ty_61, ty_62, ty_63, ty_64, ty_65, ty_66, ty_67, ty_68, ty_69, ty_70, ty_71, ty_72, ty_73, ty_74, ty_75, ty_76, ty_77, ty_78, pl_3_7, pl_3_12, pl_3_14, pl_3_15, pl_3_17, pl_4_12, pl_5_7, pl_6_16, pl_6_21, pl_7_3, pl_7_7, pl_8_5, pl_12_3, pl_13_1, pl_13_11, pl_15_6, pl_16_8, pl_17_4, pl_19_5, pl_19_12, pl_24_5, pl_24_12, pl_26_1, pl_27_2, pl_28_3, pl_30_3, pl_33_2, hty, hpl, g4, g5, g6, g7, e3, r1]
    exact ⟨_, _, ⟨rfl, rfl⟩, fin h2 (o2.trans ⟨r2.1, fun j hj _ h2 => r2.2 j hj h2⟩) r3, by simp [AV.wk]⟩
noncomputable abbrev p33 := ofRelH fun args h v hk => ∃ d, R33 d args h v hk
theorem p33_ok : PrimOk Try.prog 33 p33 := prim_union pd33_ok fun a h r hr => by
  obtain ⟨v, k⟩ := r
  obtain ⟨d, hd⟩ := ofRelH_some hr
  exact ⟨d, ofRelH_of hd fun u k' hu => R33_uniq hu hd⟩
theorem c33 {E : Env} (hp : E.prim 33 = some p33) {d s m q : Nat} {nx : Int} {sd : Sd} {t : Ty} {n : Int} {seen seen' : List Int} {b : Bool} {h : H} (h1 : good t) (h2 : PSub h s m nx sd) (h3 : ∀ p ∈ sd, good p.2) (h4 : h.t.get q = some (.map (esB seen))) (h5 : q < h.nx) (h6 : q ≠ m) (h7 : hasF d sd n seen t = some (b, seen')) :
    evL E 33 [.ptr (some (s, 0)), t.av, .int .i64 n, .map (some q)] h = some (.bool b, h.put q (.map (esB seen'))) := by
  rw [evL_prim E hp]
  have hr : R33 d [.ptr (some (s, 0)), t.av, .int .i64 n, .map (some q)] h (.bool b) (h.put q (.map (esB seen'))) := ⟨s, m, q, nx, sd, t.av, t, n, seen, seen', b, rfl, Ty.av_bare 0 t, h1, h2, h3, h4, h5, h6, h7, rfl, rfl⟩
  exact ofRelH_of ⟨d, hr⟩ fun v k ⟨d', hu⟩ => R33_uniq hu hr
end Go.Proofs.Ytiifjjcoepgobaa.Env
