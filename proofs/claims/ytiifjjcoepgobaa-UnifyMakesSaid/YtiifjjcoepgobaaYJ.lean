/- The program's says, Unify. -/
import Derived.Test.YtiifjjcoepgobaaYI
set_option autoImplicit false
set_option maxRecDepth 100000
set_option linter.unusedSimpArgs false
set_option linter.unusedVariables false
set_option linter.unusedSectionVars false
namespace Go.Proofs.Ytiifjjcoepgobaa.Env
open Go.Ev

/-! ### Plain -/
def saysF (d : Nat) (sd : Sd) (n : Int) (t : Ty) : Option (Bool × Sd) := match hasF d sd n [] t with
  | none => none
  | some (true, _) => some (false, sd)
  | some (false, _) => some (true, sd ++ [(n, t)])
def eqF (g : Sd → Ty → Ty → Option (Bool × Sd)) : Sd → List Ty → List Ty → Option (Bool × Sd)
  | sd, [], _ => some (true, sd)
  | sd, _ :: _, [] => some (false, sd)
  | sd, a :: l, b :: m => match g sd a b with
    | none => none
    | some (false, s) => some (false, s)
    | some (true, s) => eqF g s l m
def uniF : Nat → Sd → Ty → Ty → Option (Bool × Sd)
  | 0, _, _, _ => none
  | f + 1, sd, a, b => match headF f sd a, headF f sd b with
    | some (.mk oa na ka), some (.mk ob nb kb) =>
      bif natsBeq oa varS && natsBeq ob varS && intBeq na nb then some (true, sd)
      else bif natsBeq oa varS then saysF f sd na (.mk ob nb kb)
      else bif natsBeq ob varS then saysF f sd nb (.mk oa na ka)
      else bif natsBeq oa ob then (bif intBeq ↑ka.length ↑kb.length then eqF (uniF f) sd ka kb else some (false, sd)) else some (false, sd)
    | _, _ => none
theorem saysF_mono {d e : Nat} (hd : d ≤ e) {sd : Sd} {n : Int} {t : Ty} {r : Bool × Sd} (h : saysF d sd n t = some r) : saysF e sd n t = some r := by
  unfold saysF at h ⊢
  cases hh : hasF d sd n [] t with
  | none => rw [hh] at h; simp at h
  | some p => rw [hh] at h; rw [hasF_mono hd hh]; exact h
theorem eqF_mono {g g' : Sd → Ty → Ty → Option (Bool × Sd)} (h : ∀ s a b r, g s a b = some r → g' s a b = some r) : ∀ {l m : List Ty} {s : Sd} {r : Bool × Sd}, eqF g s l m = some r → eqF g' s l m = some r
  | [], _, s, r, e => e
  | _ :: _, [], s, r, e => e
  | a :: l, b :: m, s, r, e => by
    simp only [eqF] at e ⊢
    cases hg : g s a b with
    | none => rw [hg] at e; simp at e
    | some p =>
      rw [hg] at e
      rw [h _ _ _ _ hg]
      obtain ⟨x, s'⟩ := p
      cases x with
      | false => exact e
      | true => exact eqF_mono h e
theorem uniF_mono : ∀ {f g : Nat} {sd : Sd} {a b : Ty} {r : Bool × Sd}, f ≤ g → uniF f sd a b = some r → uniF g sd a b = some r
  | 0, _, _, _, _, _, _, h => by simp [uniF] at h
  | f + 1, 0, _, _, _, _, hg, _ => by omega
  | f + 1, g + 1, sd, a, b, r, hg, h => by
    simp only [uniF] at h ⊢
    cases ha : headF f sd a with
    | none => rw [ha] at h; simp at h
    | some a' =>
      cases hb : headF f sd b with
      | none => rw [ha, hb] at h; obtain ⟨oa, na, ka⟩ := a'; simp at h
      | some b' =>
        rw [ha, hb] at h
        rw [headF_mono (by omega) ha, headF_mono (by omega) hb]
        obtain ⟨oa, na, ka⟩ := a'
        obtain ⟨ob, nb, kb⟩ := b'
        simp only at h ⊢
        cases c1 : (natsBeq oa varS && natsBeq ob varS && intBeq na nb) with
        | true => rw [c1] at h; exact h
        | false =>
          rw [c1] at h
          simp only [cond_false] at h ⊢
          cases c2 : natsBeq oa varS with
          | true => rw [c2] at h; exact saysF_mono (by omega) h
          | false =>
            rw [c2] at h
            simp only [cond_false] at h ⊢
            cases c3 : natsBeq ob varS with
            | true => rw [c3] at h; exact saysF_mono (by omega) h
            | false =>
              rw [c3] at h
              simp only [cond_false] at h ⊢
              cases c4 : natsBeq oa ob with
              | false => rw [c4] at h; exact h
              | true =>
                rw [c4] at h
                simp only [cond_true] at h ⊢
                cases c5 : intBeq ↑ka.length ↑kb.length with
                | false => rw [c5] at h; exact h
                | true => rw [c5] at h; exact eqF_mono (fun s a b r e => uniF_mono (by omega) e) h
theorem headF_var : ∀ {f : Nat} {sd : Sd} {t : Ty} {o : List Nat} {n : Int} {ks : List Ty}, headF f sd t = some (.mk o n ks) → natsBeq o varS = true → look sd n = none
  | 0, _, _, _, _, _, h, _ => by simp [headF] at h
  | f + 1, sd, .mk o' n' ks', o, n, ks, h, ho => by
    simp only [headF] at h
    cases hv : natsBeq o' varS with
    | false => rw [hv] at h; simp only [cond_false, Option.some.injEq, Ty.mk.injEq] at h; rw [← h.1, hv] at ho; cases ho
    | true =>
      rw [hv] at h
      simp only [cond_true] at h
      cases hl : look sd n' with
      | none => rw [hl] at h; simp only [Option.some.injEq, Ty.mk.injEq] at h; rw [← h.2.1]; exact hl
      | some u => rw [hl] at h; exact headF_var h ho
theorem mapPut_look {n : Int} {t : Ty} : ∀ {sd : Sd}, look sd n = none → mapPut (.int .i64 n) t.av (esOf sd) = some (esOf (sd ++ [(n, t)]))
  | [], _ => rfl
  | (k, u) :: l, h => by
    simp only [look] at h
    cases hb : intBeq n k with
    | true => rw [hb] at h; simp at h
    | false =>
      rw [hb] at h
      have := mapPut_look (n := n) (t := t) (sd := l) h
      simp only [esOf, List.map_cons, mapPut, keyCmp, ikBeq, cond_true, hb, List.cons_append] at this ⊢
      rw [this]

/-! ### says -/
def R28 (args : List AV) (h : H) (v : AV) (hk : H) : Prop := ∃ (d s m : Nat) (nx : Int) (sd sd' : Sd) (x : AV) (t : Ty) (n : Int) (b : Bool),
  args = [.ptr (some (s, 0)), .int .i64 n, x] ∧ x.wk 0 t.av ∧ good t ∧ PSub h s m nx sd ∧ (∀ p ∈ sd, good p.2) ∧ look sd n = none ∧ saysF d sd n t = some (b, sd') ∧ v = .bool b ∧ hk = h.put m (.map (esOf sd'))
theorem R28_uniq {args : List AV} {h : H} {v v' : AV} {k k' : H} (a : R28 args h v k) (b : R28 args h v' k') : v = v' ∧ k = k' := by
  obtain ⟨d, s, m, nx, sd, sd1, x, t, n, b1, h1, h2, h3, h4, h5, h6, h7, rfl, rfl⟩ := a
  obtain ⟨d', s', m', nx', sd', sd1', x', t', n', b1', g1, g2, g3, g4, g5, g6, g7, rfl, rfl⟩ := b
  rw [h1] at g1
  simp at g1
  obtain ⟨rfl, rfl, rfl⟩ := g1
  obtain ⟨rfl, _, rfl⟩ := h4.uniq g4
  obtain rfl := wk_av h2 g2
  have e1 := saysF_mono (Nat.le_max_left d d') h7
  have e2 := saysF_mono (Nat.le_max_right d d') g7
  rw [e1] at e2
  simp at e2
  obtain ⟨rfl, rfl⟩ := e2
  exact ⟨rfl, rfl⟩
noncomputable abbrev p28 := ofRelH R28
theorem p28_ok : PrimOk Try.prog 28 p28 := prim_of (addPrim_ok envA_ok p33_ok) (fn := Try.f28) (by kernel_rfl) rfl fun args h v hk hr => by
  obtain ⟨d, s, m, nx, sd, sd', x, t, n, b, rfl, hx, hgt, hs, hsg, hln, hsy, rfl, rfl⟩ := ofRelH_some hr
  refine ⟨rfl, [.ptr (some (s, 0)), .int .i64 n, t.av], wks_cons.2 ⟨wk_ptr hs.hs, wks_cons.2 ⟨by simp [AV.wk], wks1.2 (wk_mono (Nat.zero_le _) hx)⟩⟩, ?_⟩
  have hprim : (addPrim envA 33 p33).prim 33 = some p33 := by kernel_rfl
  generalize hEe : addPrim envA 33 p33 = E at *
  have hty : E.ty = env.ty := by rw [← hEe]; rfl
  have hpl : E.plan = env.plan := by rw [← hEe]; rfl
  have hls := hs.hs
  have hlm := hs.hm
  have cs := hs.cs
  have cm := hs.cm
  have ns : s ≠ h.nx := by omega
  have nm : m ≠ h.nx := by omega
  have ns1 : s ≠ h.nx + 1 := by omega
  have nm1 : m ≠ h.nx + 1 := by omega
  unfold saysF at hsy
  cases hh : hasF d sd n [] t with
  | none => rw [hh] at hsy; simp at hsy
  | some r =>
    obtain ⟨b1, s1⟩ := r
    rw [hh] at hsy
    have hcall := c33 (E := E) hprim (q := h.nx + 1) (h := ⟨(h.t.set h.nx (.cells t.av.cells)).set (h.nx + 1) (.map []), h.nx + 1 + 1⟩) hgt (hs.mono (by simp; omega) (by simp only [T.get_set_ite]; rw [if_neg ns1, if_neg ns]) (by simp only [T.get_set_ite]; rw [if_neg nm1, if_neg nm])) hsg (seen := []) (by simp [T.get_set_ite, esB]) (by simp) (by omega) hh
    have hput : ∀ h1 : H, (∀ id, id < h.nx → id ≠ m → h1.t.get id = h.t.get id) → h1.t.get m = some (.map (esOf sd')) → Keep h h1 (h.put m (.map (esOf sd'))) := fun h1 e1 e2 => keep_put hlm e1 e2 (fun k => esOf_wk k sd')
    obtain ⟨t0, t1, t2, ht⟩ := av_cells t
    have hmp := mapPut_look (t := t) hln
    rw [ht] at hcall hmp ⊢
    simp only [AV.cells] at hcall
    unfold bodyL
    simp only [Try.f28]
    cases b1 with
    | true =>
      simp only [Option.some.injEq, Prod.mk.injEq] at hsy
      obtain ⟨rfl, rfl⟩ := hsy
      simp [cdL_seq, cdL_region, cdL_drawn, cdL_cond, cdL_block, cdL_skip, cdL_label, cdL_exit, cdL_ret, endL, evSeq, evOne, evAct, evOp, opKind, evPure, evRead, evNew, evWrite, evSlice, natOf, optVal, readAt, AV.cells, wantedA, putTm, val, allVals, evBin, evInt, evStr, evAppend, denseFrom, sizesAre, onesIn, evPlan, recheck, AV.beq_refl, H.new, H.put, fillF, fillAt, allOne, AV.one, setArgs, evRes, resOf, ofVal, ofVal0, blt_dec, ble_dec, beq_dec, T.get_set_ite, T.get_e, isShift, ikBeq, ty_0, ty_1, ty_2, ty_3, ty_4, ty_5, ty_6, ty_7, ty_8, ty_9, ty_10, ty_11, ty_12, ty_13, ty_14, ty_15, ty_16, ty_17, ty_18, ty_19, ty_20, ty_21, ty_22, ty_23, ty_24, ty_25, ty_26, ty_27, ty_28, ty_29, ty_30, ty_31, ty_32, ty_33, ty_34, ty_35, ty_36, ty_37, ty_38, ty_39, ty_40, ty_41, ty_42, ty_43, ty_44, ty_45, ty_46, ty_47, ty_48, ty_49, ty_50, ty_51, ty_52, ty_53, ty_54, ty_55, ty_56, ty_57, ty_58, ty_59, ty_60, ty_61, ty_62, ty_63, ty_64, ty_65, ty_66, ty_67, ty_68, ty_69, ty_70, ty_71, ty_72, ty_73, ty_74, ty_75, ty_76, ty_77, ty_78, pl_3_7, pl_3_12, pl_3_14, pl_3_15, pl_3_17, pl_4_12, pl_5_7, pl_6_16, pl_6_21, pl_7_3, pl_7_7, pl_8_5, pl_12_3, pl_13_1, pl_13_11, pl_15_6, pl_16_8, pl_17_4, pl_19_5, pl_19_12, pl_24_5, pl_24_12, pl_26_1, pl_27_2, pl_28_3, pl_30_3, pl_33_2, nq2, nq3, nq4, nq5, nr2, nr3, nr4, nr5, hty, hpl, hcall]
      refine ⟨_, _, ⟨rfl, rfl⟩, hput _ (fun id hi hm => ?_) ?_, by simp [AV.wk]⟩
      · simp only [T.get_set_ite]; rw [if_neg (by omega), if_neg (by omega), if_neg (by omega)]
      · simp only [T.get_set_ite]; rw [if_neg nm1, if_neg nm1, if_neg nm]; exact cm
    | false =>
      simp only [Option.some.injEq, Prod.mk.injEq] at hsy
      obtain ⟨rfl, rfl⟩ := hsy
      simp [cdL_seq, cdL_region, cdL_drawn, cdL_cond, cdL_block, cdL_skip, cdL_label, cdL_exit, cdL_ret, endL, evSeq, evOne, evAct, evOp, opKind, evPure, evRead, evNew, evWrite, evSlice, natOf, optVal, readAt, AV.cells, wantedA, putTm, val, allVals, evBin, evInt, evStr, evAppend, denseFrom, sizesAre, onesIn, evPlan, recheck, AV.beq_refl, H.new, H.put, fillF, fillAt, allOne, AV.one, setArgs, evRes, resOf, ofVal, ofVal0, blt_dec, ble_dec, beq_dec, T.get_set_ite, T.get_e, isShift, ikBeq, ty_0, ty_1, ty_2, ty_3, ty_4, ty_5, ty_6, ty_7, ty_8, ty_9, ty_10, ty_11, ty_12, ty_13, ty_14, ty_15, ty_16, ty_17, ty_18, ty_19, ty_20, ty_21, ty_22, ty_23, ty_24, ty_25, ty_26, ty_27, ty_28, ty_29, ty_30, ty_31, ty_32, ty_33, ty_34, ty_35, ty_36, ty_37, ty_38, ty_39, ty_40, ty_41, ty_42, ty_43, ty_44, ty_45, ty_46, ty_47, ty_48, ty_49, ty_50, ty_51, ty_52, ty_53, ty_54, ty_55, ty_56, ty_57, ty_58, ty_59, ty_60, ty_61, ty_62, ty_63, ty_64, ty_65, ty_66, ty_67, ty_68, ty_69, ty_70, ty_71, ty_72, ty_73, ty_74, ty_75, ty_76, ty_77, ty_78, pl_3_7, pl_3_12, pl_3_14, pl_3_15, pl_3_17, pl_4_12, pl_5_7, pl_6_16, pl_6_21, pl_7_3, pl_7_7, pl_8_5, pl_12_3, pl_13_1, pl_13_11, pl_15_6, pl_16_8, pl_17_4, pl_19_5, pl_19_12, pl_24_5, pl_24_12, pl_26_1, pl_27_2, pl_28_3, pl_30_3, pl_33_2, nq2, nq3, nq4, nq5, nr2, nr3, nr4, nr5, hty, hpl, hcall, cs, cm, ns, nm, ns1, nm1, evUpd, keyOk, hmp]
      refine ⟨_, _, ⟨rfl, rfl⟩, hput _ (fun id hi hm => ?_) ?_, by simp [AV.wk]⟩
      · simp only [T.get_set_ite]; rw [if_neg hm, if_neg (by omega), if_neg (by omega), if_neg (by omega)]
      · simp [T.get_set_ite]
theorem c28 {E : Env} (hp : E.prim 28 = some p28) {d s m : Nat} {nx : Int} {sd sd' : Sd} {t : Ty} {n : Int} {b : Bool} {h : H} (h1 : good t) (h2 : PSub h s m nx sd) (h3 : ∀ p ∈ sd, good p.2) (h4 : look sd n = none) (h5 : saysF d sd n t = some (b, sd')) :
    evL E 28 [.ptr (some (s, 0)), .int .i64 n, t.av] h = some (.bool b, h.put m (.map (esOf sd'))) := by
  rw [evL_prim E hp]
  have hr : R28 [.ptr (some (s, 0)), .int .i64 n, t.av] h (.bool b) (h.put m (.map (esOf sd'))) := ⟨d, s, m, nx, sd, sd', t.av, t, n, b, rfl, Ty.av_bare 0 t, h1, h2, h3, h4, h5, rfl, rfl⟩
  exact ofRelH_of hr fun v k hu => R28_uniq hu hr
end Go.Proofs.Ytiifjjcoepgobaa.Env
