/- The program's Unify as a primitive. -/
import Derived.Test.YtiifjjcoepgobaaYJ
set_option autoImplicit false
set_option maxRecDepth 100000
set_option linter.unusedSimpArgs false
set_option linter.unusedVariables false
set_option linter.unusedSectionVars false
namespace Go.Proofs.Ytiifjjcoepgobaa.Env
open Go.Ev

def goodS (sd : Sd) : Prop := ∀ p ∈ sd, good p.2
theorem saysF_good {d : Nat} {sd sd' : Sd} {n : Int} {t : Ty} {b : Bool} (h : saysF d sd n t = some (b, sd')) (ht : good t) (hs : goodS sd) : goodS sd' := by
  unfold saysF at h
  cases hh : hasF d sd n [] t with
  | none => rw [hh] at h; simp at h
  | some r =>
    obtain ⟨x, y⟩ := r
    rw [hh] at h
    cases x with
    | true => simp only [Option.some.injEq, Prod.mk.injEq] at h; rw [← h.2]; exact hs
    | false =>
      simp only [Option.some.injEq, Prod.mk.injEq] at h
      rw [← h.2]
      intro p hp
      rcases List.mem_append.1 hp with hp | hp
      · exact hs p hp
      · rw [List.mem_singleton.1 hp]; exact ht
theorem eqF_good {g : Sd → Ty → Ty → Option (Bool × Sd)} (hg : ∀ s a b x s', g s a b = some (x, s') → good a → good b → goodS s → goodS s') : ∀ {l m : List Ty} {s s' : Sd} {x : Bool}, eqF g s l m = some (x, s') → goods l → goods m → goodS s → goodS s'
  | [], _, s, s', x, e, _, _, hs => by simp only [eqF, Option.some.injEq, Prod.mk.injEq] at e; rw [← e.2]; exact hs
  | _ :: _, [], s, s', x, e, _, _, hs => by simp only [eqF, Option.some.injEq, Prod.mk.injEq] at e; rw [← e.2]; exact hs
  | a :: l, b :: m, s, s', x, e, hl, hm, hs => by
    simp only [eqF] at e
    simp only [goods] at hl hm
    cases hq : g s a b with
    | none => rw [hq] at e; simp at e
    | some p =>
      obtain ⟨y, s1⟩ := p
      rw [hq] at e
      have h1 := hg _ _ _ _ _ hq hl.1 hm.1 hs
      cases y with
      | false => simp only [Option.some.injEq, Prod.mk.injEq] at e; rw [← e.2]; exact h1
      | true => exact eqF_good hg e hl.2 hm.2 h1
theorem uniF_good : ∀ {f : Nat} {sd sd' : Sd} {a b : Ty} {x : Bool}, uniF f sd a b = some (x, sd') → good a → good b → goodS sd → goodS sd'
  | 0, _, _, _, _, _, h, _, _, _ => by simp [uniF] at h
  | f + 1, sd, sd', a, b, x, h, hga, hgb, hs => by
    simp only [uniF] at h
    cases ha : headF f sd a with
    | none => rw [ha] at h; simp at h
    | some a' =>
      cases hb : headF f sd b with
      | none => rw [ha, hb] at h; obtain ⟨oa, na, ka⟩ := a'; simp at h
      | some b' =>
        have h1 := headF_good ha hga hs
        have h2 := headF_good hb hgb hs
        rw [ha, hb] at h
        obtain ⟨oa, na, ka⟩ := a'
        obtain ⟨ob, nb, kb⟩ := b'
        simp only at h
        cases c1 : (natsBeq oa varS && natsBeq ob varS && intBeq na nb) with
        | true => rw [c1] at h; simp only [cond_true, Option.some.injEq, Prod.mk.injEq] at h; rw [← h.2]; exact hs
        | false =>
          rw [c1] at h
          simp only [cond_false] at h
          cases c2 : natsBeq oa varS with
          | true => rw [c2] at h; exact saysF_good h h2 hs
          | false =>
            rw [c2] at h
            simp only [cond_false] at h
            cases c3 : natsBeq ob varS with
            | true => rw [c3] at h; exact saysF_good h h1 hs
            | false =>
              rw [c3] at h
              simp only [cond_false] at h
              cases c4 : natsBeq oa ob with
              | false => rw [c4] at h; simp only [cond_false, Option.some.injEq, Prod.mk.injEq] at h; rw [← h.2]; exact hs
              | true =>
                rw [c4] at h
                simp only [cond_true] at h
                cases c5 : intBeq ↑ka.length ↑kb.length with
                | false => rw [c5] at h; simp only [cond_false, Option.some.injEq, Prod.mk.injEq] at h; rw [← h.2]; exact hs
                | true =>
                  rw [c5] at h
                  simp only [good] at h1 h2
                  exact eqF_good (fun s a b x s' e => uniF_good e) h h1.2 h2.2 hs
def R12 (d : Nat) (args : List AV) (h : H) (v : AV) (hk : H) : Prop := ∃ (x y : AV) (a b : Ty), x.wk 0 a.av ∧ y.wk 0 b.av ∧ good a ∧ good b ∧
  ((args = [.ptr none, x, y] ∧ v = .bool false ∧ hk = h ∧ 0 < d) ∨ ∃ (s m : Nat) (nx : Int) (sd sd' : Sd) (ok : Bool), args = [.ptr (some (s, 0)), x, y] ∧ PSub h s m nx sd ∧ goodS sd ∧ uniF d sd a b = some (ok, sd') ∧ v = .bool ok ∧ hk = h.put m (.map (esOf sd')))
theorem R12_mono {d e : Nat} (hd : d ≤ e) {args : List AV} {h : H} {v : AV} {hk : H} (r : R12 d args h v hk) : R12 e args h v hk := by
  obtain ⟨x, y, a, b, h1, h2, h3, h4, hc⟩ := r
  refine ⟨x, y, a, b, h1, h2, h3, h4, ?_⟩
  rcases hc with ⟨e1, e2, e3, e4⟩ | ⟨s, m, nx, sd, sd', ok, e1, e2, e3, e4, e5⟩
  · exact .inl ⟨e1, e2, e3, by omega⟩
  · exact .inr ⟨s, m, nx, sd, sd', ok, e1, e2, e3, uniF_mono hd e4, e5⟩
theorem R12_uniq {d e : Nat} {args : List AV} {h : H} {v v' : AV} {k k' : H} (ra : R12 d args h v k) (rb : R12 e args h v' k') : v = v' ∧ k = k' := by
  obtain ⟨x, y, a, b, h1, h2, h3, h4, hc⟩ := R12_mono (Nat.le_max_left d e) ra
  obtain ⟨x', y', a', b', h1', h2', h3', h4', hc'⟩ := R12_mono (Nat.le_max_right d e) rb
  rcases hc with ⟨e1, e2, e3, e4⟩ | ⟨s, m, nx, sd, sd', ok, e1, e2, e3, e4, rfl, rfl⟩ <;> rcases hc' with ⟨f1, f2, f3, f4⟩ | ⟨s', m', nx', sd1, sd1', ok', f1, f2, f3, f4, rfl, rfl⟩ <;> rw [e1] at f1 <;> simp at f1
  · exact ⟨by rw [e2, f2], by rw [e3, f3]⟩
  · obtain ⟨rfl, rfl, rfl⟩ := f1
    obtain ⟨rfl, _, rfl⟩ := e2.uniq f2
    obtain rfl := wk_av h1 h1'
    obtain rfl := wk_av h2 h2'
    rw [e4] at f4
    simp at f4
    obtain ⟨rfl, rfl⟩ := f4
    exact ⟨rfl, rfl⟩
noncomputable abbrev pd12 (d : Nat) := ofRelH (R12 d)
def Uni12 (E : Env) (d : Nat) : Prop := ∀ (s m : Nat) (nx : Int) (sd sd' : Sd) (a b : Ty) (ok : Bool) (h : H), good a → good b → PSub h s m nx sd → goodS sd → uniF d sd a b = some (ok, sd') →
  evL E 12 [.ptr (some (s, 0)), a.av, b.av] h = some (.bool ok, h.put m (.map (esOf sd')))
theorem uni12_of {E : Env} {d : Nat} (hp : E.prim 12 = some (pd12 d)) : Uni12 E d := fun s m nx sd sd' a b ok h h1 h2 h3 h4 h5 => by
  rw [evL_prim E hp]
  have hr : R12 d [.ptr (some (s, 0)), a.av, b.av] h (.bool ok) (h.put m (.map (esOf sd'))) := ⟨a.av, b.av, a, b, Ty.av_bare 0 a, Ty.av_bare 0 b, h1, h2, .inr ⟨s, m, nx, sd, sd', ok, rfl, h3, h4, h5, rfl, rfl⟩⟩
  exact ofRelH_of hr fun v k hu => R12_uniq hu hr
theorem PSub.put {h h1 : H} {s m : Nat} {nx : Int} {sd sd' : Sd} (p : PSub h s m nx sd) (ho : Only m h h1) (hm : h1.t.get m = some (.map (esOf sd'))) : PSub h1 s m nx sd' := by
  have hsm : s ≠ m := by
    rintro rfl
    have h1 := p.cs
    have h2 := p.cm
    rw [h1] at h2
    cases h2
  exact ⟨by rw [ho.2 s p.hs hsm]; exact p.cs, hm, Nat.lt_of_lt_of_le p.hs ho.1, Nat.lt_of_lt_of_le p.hm ho.1⟩

noncomputable def b29_0 : Code := loopOf Try.f29 0
theorem body29 : Try.f29.body = some (.seq (codeAt Try.f29 [0]) (.seq (codeAt Try.f29 [1, 0]) (.seq (.seq (codeAt Try.f29 [1, 1, 0, 0]) (.block 0 (.loop b29_0))) (codeAt Try.f29 [1, 1, 1])))) := rfl
theorem loop29 {E : Env} (hty : E.ty = env.ty) (hpl : E.plan = env.plan) {d : Nat} (hc : Uni12 E d) {s m : Nat} {nx : Int} {k1 k2 : List Ty} (hl : k1.length ≤ 1000000) (he : k1.length = k2.length) (hf1 : goods k1) (hf2 : goods k2) {ok : Bool} {sd' : Sd} :
    ∀ (l r : List Ty) (i : Nat) (sd : Sd) {tm : Tm} {h : H} {x : Option (Ex × Tm × H)}, cdL E 29 32 (.loop b29_0) tm h = x → l = k1.drop i → r = k2.drop i → i ≤ k1.length → PSub h s m nx sd → goodS sd → eqF (uniF d) sd l r = some (ok, sd') →
    tm.get 1 = some (.sl .no (Ty.avs k2)) → tm.get 2 = some (.fn 12 [.ptr (some (s, 0))] []) → tm.get 15 = some (.sl .no (Ty.avs k1)) → tm.get 16 = some (.int .i64 ↑k1.length) → tm.get 17 = some (.int .i64 ↑i) →
    ∃ tm' h', x = some (bif ok then .exit 0 else .ret, tm', h') ∧ Only m h h' ∧ h'.t.get m = some (.map (esOf sd')) ∧ (ok = false → tm'.get 6 = some (.bool false))
  | [], r, i, sd, tm, h, x, hx, hd1, hd2, hi, hp, hg, hu, g1, g2, g15, g16, g17 => by
    have hlen := dnil hd1 hi
    simp only [eqF, Option.some.injEq, Prod.mk.injEq] at hu
    obtain ⟨rfl, rfl⟩ := hu
    obtain ⟨R, hR, hx⟩ := loop_step hx
    simp [b29_0, loopOf, Try.f29, loops, cdL_seq, cdL_region, cdL_drawn, cdL_cond, cdL_block, cdL_skip, cdL_label, cdL_exit, cdL_ret, endL, evSeq, evOne, evAct, evOp, opKind, evPure, evRead, evNew, evWrite, evSlice, natOf, optVal, readAt, AV.cells, wantedA, putTm, val, allVals, evBin, evInt, evStr, evAppend, denseFrom, sizesAre, onesIn, evPlan, recheck, AV.beq_refl, H.new, H.put, fillF, fillAt, allOne, AV.one, setArgs, evRes, resOf, ofVal, ofVal0, blt_dec, ble_dec, beq_dec, T.get_set_ite, T.get_e, isShift, ikBeq, ty_0, ty_1, ty_2, ty_3, ty_4, ty_5, ty_6, ty_7, ty_8, ty_9, ty_10, ty_11, ty_12, ty_13, ty_14, ty_15, ty_16, ty_17, ty_18, ty_19, ty_20, ty_21, ty_22, ty_23, ty_24, ty_25, ty_26, ty_27, ty_28, ty_29, ty_30, ty_31, ty_32, ty_33, ty_34, ty_35, ty_36, ty_37, ty_38, ty_39, ty_40, ty_41, ty_42, ty_43, ty_44, ty_45, ty_46, ty_47, ty_48, ty_49, ty_50, ty_51, ty_52, ty_53, ty_54, ty_55, ty_56, ty_57, ty_58, ty_59, ty_60, ty_61, ty_62, ty_63, ty_64, ty_65, ty_66, ty_67, ty_68, ty_69, ty_70, ty_71, ty_72, ty_73, ty_74, ty_75, ty_76, ty_77, ty_78, pl_3_7, pl_3_12, pl_3_14, pl_3_15, pl_3_17, pl_4_12, pl_5_7, pl_6_16, pl_6_21, pl_7_3, pl_7_7, pl_8_5, pl_12_3, pl_13_1, pl_13_11, pl_15_6, pl_16_8, pl_17_4, pl_19_5, pl_19_12, pl_24_5, pl_24_12, pl_26_1, pl_27_2, pl_28_3, pl_30_3, pl_33_2, lp, hty, hpl, g1, g2, g15, g16, g17, hlen, ltI_f] at hx
    exact ⟨_, h, by rw [← hx]; rfl, ⟨Nat.le_refl _, fun _ _ _ => rfl⟩, hp.cm, by simp⟩
  | a :: l, [], i, sd, tm, h, x, hx, hd1, hd2, hi, hp, hg, hu, g1, g2, g15, g16, g17 => by
    obtain ⟨hlt, _, _⟩ := dcons hd1
    have := congrArg List.length hd2
    simp at this
    omega
  | a :: l, b :: r, i, sd, tm, h, x, hx, hd1, hd2, hi, hp, hg, hu, g1, g2, g15, g16, g17 => by
    obtain ⟨hlt, hct, hd'⟩ := dcons hd1
    obtain ⟨hlt2, hct2, hd2'⟩ := dcons hd2
    have hat := avs_get hct
    have hbt := avs_get hct2
    have htm := goods_mem.1 hf1 a (List.mem_of_getElem? hct)
    have htm2 := goods_mem.1 hf2 b (List.mem_of_getElem? hct2)
    obtain ⟨R, hR, hx⟩ := loop_step hx
    have hlt' := ltI_t hlt
    have hw := wr_succ (i := i) (by omega)
    simp only [eqF] at hu
    have hls := hp.hs
    have hlm := hp.hm
    cases hq : uniF d sd a b with
    | none => rw [hq] at hu; simp at hu
    | some p =>
      obtain ⟨y, s1⟩ := p
      rw [hq] at hu
      have hg1 := uniF_good hq htm htm2 hg
      have hcall := hc s m nx sd s1 a b y ⟨(((h.t.set h.nx (.cells [.str [], .int .i64 0, .sl .full []])).set h.nx (.cells a.av.cells)).set (h.nx + 1) (.cells [.str [], .int .i64 0, .sl .full []])).set (h.nx + 1) (.cells b.av.cells), h.nx + 1 + 1⟩ htm htm2
        (hp.mono (by simp; omega) (by simp only [T.get_set_ite]; rw [if_neg (by omega), if_neg (by omega), if_neg (by omega), if_neg (by omega)]) (by simp only [T.get_set_ite]; rw [if_neg (by omega), if_neg (by omega), if_neg (by omega), if_neg (by omega)])) hg hq
      have ho : ∀ c1 c2 c3 c4 : Ev.Obj, Only m h ⟨((((h.t.set h.nx c1).set h.nx c2).set (h.nx + 1) c3).set (h.nx + 1) c4).set m (.map (esOf s1)), h.nx + 1 + 1⟩ := fun c1 c2 c3 c4 => ⟨by simp; omega, fun j hj hjm => by
        simp only [T.get_set_ite]; rw [if_neg hjm, if_neg (by omega), if_neg (by omega), if_neg (by omega), if_neg (by omega)]⟩
      obtain ⟨a0, a1, a2, ha⟩ := av_cells a
      obtain ⟨b0, b1, b2, hb0⟩ := av_cells b
      rw [ha] at hat hcall
      rw [hb0] at hbt hcall
      simp only [AV.cells] at hcall
      cases y with
      | false =>
        simp only [Option.some.injEq, Prod.mk.injEq] at hu
        obtain ⟨rfl, rfl⟩ := hu
        simp [b29_0, loopOf, Try.f29, loops, cdL_seq, cdL_region, cdL_drawn, cdL_cond, cdL_block, cdL_skip, cdL_label, cdL_exit, cdL_ret, endL, evSeq, evOne, evAct, evOp, opKind, evPure, evRead, evNew, evWrite, evSlice, natOf, optVal, readAt, AV.cells, wantedA, putTm, val, allVals, evBin, evInt, evStr, evAppend, denseFrom, sizesAre, onesIn, evPlan, recheck, AV.beq_refl, H.new, H.put, fillF, fillAt, allOne, AV.one, setArgs, evRes, resOf, ofVal, ofVal0, blt_dec, ble_dec, beq_dec, T.get_set_ite, T.get_e, isShift, ikBeq, ty_0, ty_1, ty_2, ty_3, ty_4, ty_5, ty_6, ty_7, ty_8, ty_9, ty_10, ty_11, ty_12, ty_13, ty_14, ty_15, ty_16, ty_17, ty_18, ty_19, ty_20, ty_21, ty_22, ty_23, ty_24, ty_25, ty_26, ty_27, ty_28, ty_29, ty_30, ty_31, ty_32, ty_33, ty_34, ty_35, ty_36, ty_37, ty_38, ty_39, ty_40, ty_41, ty_42, ty_43, ty_44, ty_45, ty_46, ty_47, ty_48, ty_49, ty_50, ty_51, ty_52, ty_53, ty_54, ty_55, ty_56, ty_57, ty_58, ty_59, ty_60, ty_61, ty_62, ty_63, ty_64, ty_65, ty_66, ty_67, ty_68, ty_69, ty_70, ty_71, ty_72, ty_73, ty_74, ty_75, ty_76, ty_77, ty_78, pl_3_7, pl_3_12, pl_3_14, pl_3_15, pl_3_17, pl_4_12, pl_5_7, pl_6_16, pl_6_21, pl_7_3, pl_7_7, pl_8_5, pl_12_3, pl_13_1, pl_13_11, pl_15_6, pl_16_8, pl_17_4, pl_19_5, pl_19_12, pl_24_5, pl_24_12, pl_26_1, pl_27_2, pl_28_3, pl_30_3, pl_33_2, nq2, nq3, nq4, nq5, nr2, nr3, nr4, nr5, lp, hty, hpl, g1, g2, g15, g16, g17, hlt', hat, hbt, hw, hcall] at hx
        exact ⟨_, _, by rw [← hx]; rfl, ho _ _ _ _, by simp [T.get_set_ite], by simp [T.get_set_ite]⟩
      | true =>
        simp only at hu
        simp [b29_0, loopOf, Try.f29, loops, cdL_seq, cdL_region, cdL_drawn, cdL_cond, cdL_block, cdL_skip, cdL_label, cdL_exit, cdL_ret, endL, evSeq, evOne, evAct, evOp, opKind, evPure, evRead, evNew, evWrite, evSlice, natOf, optVal, readAt, AV.cells, wantedA, putTm, val, allVals, evBin, evInt, evStr, evAppend, denseFrom, sizesAre, onesIn, evPlan, recheck, AV.beq_refl, H.new, H.put, fillF, fillAt, allOne, AV.one, setArgs, evRes, resOf, ofVal, ofVal0, blt_dec, ble_dec, beq_dec, T.get_set_ite, T.get_e, isShift, ikBeq, ty_0, ty_1, ty_2, ty_3, ty_4, ty_5, ty_6, ty_7, ty_8, ty_9, ty_10, ty_11, ty_12, ty_13, ty_14, ty_15, ty_16, ty_17, ty_18, ty_19, ty_20, ty_21, ty_22, ty_23, ty_24, ty_25, ty_26, ty_27, ty_28, ty_29, ty_30, ty_31, ty_32, ty_33, ty_34, ty_35, ty_36, ty_37, ty_38, ty_39, ty_40, ty_41, ty_42, ty_43, ty_44, ty_45, ty_46, ty_47, ty_48, ty_49, ty_50, ty_51, ty_52, ty_53, ty_54, ty_55, ty_56, ty_57, ty_58, ty_59, ty_60, ty_61, ty_62, ty_63, ty_64, ty_65, ty_66, ty_67, ty_68, ty_69, ty_70, ty_71, ty_72, ty_73, ty_74, ty_75, ty_76, ty_77, ty_78, pl_3_7, pl_3_12, pl_3_14, pl_3_15, pl_3_17, pl_4_12, pl_5_7, pl_6_16, pl_6_21, pl_7_3, pl_7_7, pl_8_5, pl_12_3, pl_13_1, pl_13_11, pl_15_6, pl_16_8, pl_17_4, pl_19_5, pl_19_12, pl_24_5, pl_24_12, pl_26_1, pl_27_2, pl_28_3, pl_30_3, pl_33_2, nq2, nq3, nq4, nq5, nr2, nr3, nr4, nr5, lp, hty, hpl, g1, g2, g15, g16, g17, hlt', hat, hbt, hw, hcall] at hx
        rw [hR] at hx
        obtain ⟨tm', h', q1, q2, q3, q4⟩ := loop29 hty hpl hc hl he hf1 hf2 l r (i + 1) s1 hx hd' hd2' hlt (hp.put (ho _ _ _ _) (by simp [T.get_set_ite])) hg1 hu (by simp [T.get_set_ite, g1]) (by simp [T.get_set_ite, g2]) (by simp [T.get_set_ite, g15]) (by simp [T.get_set_ite, g16]) (by simp [T.get_set_ite])
        exact ⟨tm', h', q1, (ho _ _ _ _).trans q2, q3, q4⟩
theorem eq_run {E : Env} (hty : E.ty = env.ty) (hpl : E.plan = env.plan) (hp29 : E.prim 29 = none) (hfn29 : E.fns 29 = some Try.f29) {d : Nat} (hc : Uni12 E d) {s m : Nat} {nx : Int} {k1 k2 : List Ty} (hl : k1.length ≤ 1000000) (he : k1.length = k2.length) (hf1 : goods k1) (hf2 : goods k2) {ok : Bool} {sd sd' : Sd} {h : H}
    (hp : PSub h s m nx sd) (hg : goodS sd) (hu : eqF (uniF d) sd k1 k2 = some (ok, sd')) :
    ∃ h', evL E 29 [.sl .no (Ty.avs k1), .sl .no (Ty.avs k2), .fn 12 [.ptr (some (s, 0))] []] h = some (.bool ok, h') ∧ Only m h h' ∧ h'.t.get m = some (.map (esOf sd')) := by
  rw [evL_fn E hp29 hfn29 body29 _ _ rfl]
  simp only [codeAt, sub, Try.f29]
  have hl1 := avs_len k1
  have hl2 := avs_len k2
  have hb : intBeq ↑k1.length ↑k2.length = true := intBeq_iff.2 (by omega)
  simp [cdL_seq, cdL_region, cdL_drawn, cdL_cond, cdL_block, cdL_skip, cdL_label, cdL_exit, cdL_ret, endL, evSeq, evOne, evAct, evOp, opKind, evPure, evRead, evNew, evWrite, evSlice, natOf, optVal, readAt, AV.cells, wantedA, putTm, val, allVals, evBin, evInt, evStr, evAppend, denseFrom, sizesAre, onesIn, evPlan, recheck, AV.beq_refl, H.new, H.put, fillF, fillAt, allOne, AV.one, setArgs, evRes, resOf, ofVal, ofVal0, blt_dec, ble_dec, beq_dec, T.get_set_ite, T.get_e, isShift, ikBeq, ty_0, ty_1, ty_2, ty_3, ty_4, ty_5, ty_6, ty_7, ty_8, ty_9, ty_10, ty_11, ty_12, ty_13, ty_14, ty_15, ty_16, ty_17, ty_18, ty_19, ty_20, ty_21, ty_22, ty_23, ty_24, ty_25, ty_26, ty_27, ty_28, ty_29, ty_30, ty_31, ty_32, ty_33, ty_34, ty_35, ty_36, ty_37, ty_38, ty_39, ty_40, ty_41, ty_42, ty_43, ty_44, ty_45, ty_46, ty_47, ty_48, ty_49, ty_50, ty_51, ty_52, ty_53, ty_54, ty_55, ty_56, ty_57, ty_58, ty_59, ty_60, ty_61, ty_62, ty_63, ty_64, ty_65, ty_66, ty_67, ty_68, ty_69, ty_70, ty_71, ty_72, ty_73, ty_74, ty_75, ty_76, ty_77, ty_78, pl_3_7, pl_3_12, pl_3_14, pl_3_15, pl_3_17, pl_4_12, pl_5_7, pl_6_16, pl_6_21, pl_7_3, pl_7_7, pl_8_5, pl_12_3, pl_13_1, pl_13_11, pl_15_6, pl_16_8, pl_17_4, pl_19_5, pl_19_12, pl_24_5, pl_24_12, pl_26_1, pl_27_2, pl_28_3, pl_30_3, pl_33_2, hty, hpl, hl1, hl2, hb]
  generalize hx : cdL E 29 32 (.loop b29_0) _ _ = x
  obtain ⟨tm', h', rfl, q2, q3, q4⟩ := loop29 hty hpl hc hl he hf1 hf2 k1 k2 0 sd hx rfl rfl (Nat.zero_le _) hp hg hu (by simp [T.get_set_ite]) (by simp [T.get_set_ite]) (by simp [T.get_set_ite]) (by simp [T.get_set_ite]) (by simp [T.get_set_ite])
  cases ok with
  | true =>
    simp [cdL_seq, cdL_region, cdL_drawn, cdL_cond, cdL_block, cdL_skip, cdL_label, cdL_exit, cdL_ret, endL, evSeq, evOne, evAct, evOp, opKind, evPure, evRead, evNew, evWrite, evSlice, natOf, optVal, readAt, AV.cells, wantedA, putTm, val, allVals, evBin, evInt, evStr, evAppend, denseFrom, sizesAre, onesIn, evPlan, recheck, AV.beq_refl, H.new, H.put, fillF, fillAt, allOne, AV.one, setArgs, evRes, resOf, ofVal, ofVal0, blt_dec, ble_dec, beq_dec, T.get_set_ite, T.get_e, isShift, ikBeq, ty_0, ty_1, ty_2, ty_3, ty_4, ty_5, ty_6, ty_7, ty_8, ty_9, ty_10, ty_11, ty_12, ty_13, ty_14, ty_15, ty_16, ty_17, ty_18, ty_19, ty_20, ty_21, ty_22, ty_23, ty_24, ty_25, ty_26, ty_27, ty_28, ty_29, ty_30, ty_31, ty_32, ty_33, ty_34, ty_35, ty_36, ty_37, ty_38, ty_39, ty_40, ty_41, ty_42, ty_43, ty_44, ty_45, ty_46, ty_47, ty_48, ty_49, ty_50, ty_51, ty_52, ty_53, ty_54, ty_55, ty_56, ty_57, ty_58, ty_59, ty_60, ty_61, ty_62, ty_63, ty_64, ty_65, ty_66, ty_67, ty_68, ty_69, ty_70, ty_71, ty_72, ty_73, ty_74, ty_75, ty_76, ty_77, ty_78, pl_3_7, pl_3_12, pl_3_14, pl_3_15, pl_3_17, pl_4_12, pl_5_7, pl_6_16, pl_6_21, pl_7_3, pl_7_7, pl_8_5, pl_12_3, pl_13_1, pl_13_11, pl_15_6, pl_16_8, pl_17_4, pl_19_5, pl_19_12, pl_24_5, pl_24_12, pl_26_1, pl_27_2, pl_28_3, pl_30_3, pl_33_2, hty, hpl]
    exact ⟨q2, q3⟩
  | false =>
    simp [cdL_seq, cdL_region, cdL_drawn, cdL_cond, cdL_block, cdL_skip, cdL_label, cdL_exit, cdL_ret, endL, evSeq, evOne, evAct, evOp, opKind, evPure, evRead, evNew, evWrite, evSlice, natOf, optVal, readAt, AV.cells, wantedA, putTm, val, allVals, evBin, evInt, evStr, evAppend, denseFrom, sizesAre, onesIn, evPlan, recheck, AV.beq_refl, H.new, H.put, fillF, fillAt, allOne, AV.one, setArgs, evRes, resOf, ofVal, ofVal0, blt_dec, ble_dec, beq_dec, T.get_set_ite, T.get_e, isShift, ikBeq, ty_0, ty_1, ty_2, ty_3, ty_4, ty_5, ty_6, ty_7, ty_8, ty_9, ty_10, ty_11, ty_12, ty_13, ty_14, ty_15, ty_16, ty_17, ty_18, ty_19, ty_20, ty_21, ty_22, ty_23, ty_24, ty_25, ty_26, ty_27, ty_28, ty_29, ty_30, ty_31, ty_32, ty_33, ty_34, ty_35, ty_36, ty_37, ty_38, ty_39, ty_40, ty_41, ty_42, ty_43, ty_44, ty_45, ty_46, ty_47, ty_48, ty_49, ty_50, ty_51, ty_52, ty_53, ty_54, ty_55, ty_56, ty_57, ty_58, ty_59, ty_60, ty_61, ty_62, ty_63, ty_64, ty_65, ty_66, ty_67, ty_68, ty_69, ty_70, ty_71, ty_72, ty_73, ty_74, ty_75, ty_76, ty_77, ty_78, pl_3_7, pl_3_12, pl_3_14, pl_3_15, pl_3_17, pl_4_12, pl_5_7, pl_6_16, pl_6_21, pl_7_3, pl_7_7, pl_8_5, pl_12_3, pl_13_1, pl_13_11, pl_15_6, pl_16_8, pl_17_4, pl_19_5, pl_19_12, pl_24_5, pl_24_12, pl_26_1, pl_27_2, pl_28_3, pl_30_3, pl_33_2, hty, hpl, q4 rfl]
    exact ⟨q2, q3⟩
theorem eq_ne {E : Env} (hty : E.ty = env.ty) (hpl : E.plan = env.plan) (hp29 : E.prim 29 = none) (hfn29 : E.fns 29 = some Try.f29) {k1 k2 : List Ty} (f : AV) (h : H) (hb : intBeq ↑k1.length ↑k2.length = false) :
    evL E 29 [.sl .no (Ty.avs k1), .sl .no (Ty.avs k2), f] h = some (.bool false, h) := by
  rw [evL_fn E hp29 hfn29 body29 _ _ rfl]
  simp only [codeAt, sub, Try.f29]
  have hl1 := avs_len k1
  have hl2 := avs_len k2
  simp [cdL_seq, cdL_region, cdL_drawn, cdL_cond, cdL_block, cdL_skip, cdL_label, cdL_exit, cdL_ret, endL, evSeq, evOne, evAct, evOp, opKind, evPure, evRead, evNew, evWrite, evSlice, natOf, optVal, readAt, AV.cells, wantedA, putTm, val, allVals, evBin, evInt, evStr, evAppend, denseFrom, sizesAre, onesIn, evPlan, recheck, AV.beq_refl, H.new, H.put, fillF, fillAt, allOne, AV.one, setArgs, evRes, resOf, ofVal, ofVal0, blt_dec, ble_dec, beq_dec, T.get_set_ite, T.get_e, isShift, ikBeq, ty_0, ty_1, ty_2, ty_3, ty_4, ty_5, ty_6, ty_7, ty_8, ty_9, ty_10, ty_11, ty_12, ty_13, ty_14, ty_15, ty_16, ty_17, ty_18, ty_19, ty_20, ty_21, ty_22, ty_23, ty_24, ty_25, ty_26, ty_27, ty_28, ty_29, ty_30, ty_31, ty_32, ty_33, ty_34, ty_35, ty_36, ty_37, ty_38, ty_39, ty_40, ty_41, ty_42, ty_43, ty_44, ty_45, ty_46, ty_47, ty_48, ty_49, ty_50, ty_51, ty_52, ty_53, ty_54, ty_55, ty_56, ty_57, ty_58, ty_59, ty_60, ty_61, ty_62, ty_63, ty_64, ty_65, ty_66, ty_67, ty_68, ty_69, ty_70, ty_71, ty_72, ty_73, ty_74, ty_75, ty_76, ty_77, ty_78, pl_3_7, pl_3_12, pl_3_14, pl_3_15, pl_3_17, pl_4_12, pl_5_7, pl_6_16, pl_6_21, pl_7_3, pl_7_7, pl_8_5, pl_12_3, pl_13_1, pl_13_11, pl_15_6, pl_16_8, pl_17_4, pl_19_5, pl_19_12, pl_24_5, pl_24_12, pl_26_1, pl_27_2, pl_28_3, pl_30_3, pl_33_2, hty, hpl, hl1, hl2, hb]
theorem body12 : Try.f12.body = some (codeAt Try.f12 []) := rfl
noncomputable def env12 : Env := addPrim (addPrim envA 27 p27) 28 p28
theorem env12_ok : EnvOk Try.prog env12 := addPrim_ok (addPrim_ok envA_ok p27_ok) p28_ok
theorem pd12_ok : ∀ d, PrimOk Try.prog 12 (pd12 d) := prim_rec env12_ok (prim_none Try.func12 (by kernel_rfl) (by kernel_rfl) fun a h => by
    cases he : pd12 0 a h with
    | none => rfl
    | some r =>
      obtain ⟨v, k⟩ := r
      obtain ⟨x, y, a, b, h1, h2, h3, h4, hc⟩ := ofRelH_some he
      rcases hc with ⟨_, _, _, h0⟩ | ⟨s, m, nx, sd, sd', ok, _, _, _, h0, _⟩
      · omega
      · simp [uniF] at h0) fun d hE => prim_of hE (fn := Try.f12) (by kernel_rfl) rfl fun args h v hk hr => by
  obtain ⟨x, y, a, b, hx, hy, hga, hgb, hc⟩ := ofRelH_some hr
  have hprim : (addPrim env12 12 (pd12 d)).prim 12 = some (pd12 d) := by kernel_rfl
  have k27 : (addPrim env12 12 (pd12 d)).prim 27 = some p27 := by kernel_rfl
  have k28 : (addPrim env12 12 (pd12 d)).prim 28 = some p28 := by kernel_rfl
  have k29 : (addPrim env12 12 (pd12 d)).prim 29 = none := by kernel_rfl
  have f29 : (addPrim env12 12 (pd12 d)).fns 29 = some Try.f29 := by kernel_rfl
  generalize hEe : addPrim env12 12 (pd12 d) = E at *
  have hty : E.ty = env.ty := by rw [← hEe]; rfl
  have hpl : E.plan = env.plan := by rw [← hEe]; rfl
  obtain ⟨a0, a1, a2, ha⟩ := av_cells a
  obtain ⟨b0, b1, b2, hb⟩ := av_cells b
  rcases hc with ⟨rfl, rfl, rfl, _⟩ | ⟨s, m, nx, sd, sd', ok, rfl, hs, hsg, hu, rfl, rfl⟩
  · refine ⟨rfl, [.ptr none, a.av, b.av], wks_cons.2 ⟨by simp [AV.wk], wks_cons.2 ⟨wk_mono (Nat.zero_le _) hx, wks1.2 (wk_mono (Nat.zero_le _) hy)⟩⟩, ?_⟩
    unfold bodyL
    rw [ha, hb]
    simp only [Try.f12]
    simp [cdL_seq, cdL_region, cdL_drawn, cdL_cond, cdL_block, cdL_skip, cdL_label, cdL_exit, cdL_ret, endL, evSeq, evOne, evAct, evOp, opKind, evPure, evRead, evNew, evWrite, evSlice, natOf, optVal, readAt, AV.cells, wantedA, putTm, val, allVals, evBin, evInt, evStr, evAppend, denseFrom, sizesAre, onesIn, evPlan, recheck, AV.beq_refl, H.new, H.put, fillF, fillAt, allOne, AV.one, setArgs, evRes, resOf, ofVal, ofVal0, blt_dec, ble_dec, beq_dec, T.get_set_ite, T.get_e, isShift, ikBeq, ty_0, ty_1, ty_2, ty_3, ty_4, ty_5, ty_6, ty_7, ty_8, ty_9, ty_10, ty_11, ty_12, ty_13, ty_14, ty_15, ty_16, ty_17, ty_18, ty_19, ty_20, ty_21, ty_22, ty_23, ty_24, ty_25, ty_26, ty_27, ty_28, ty_29, ty_30, ty_31, ty_32, ty_33, ty_34, ty_35, ty_36, ty_37, ty_38, ty_39, ty_40, ty_41, ty_42, ty_43, ty_44, ty_45, ty_46, ty_47, ty_48, ty_49, ty_50, ty_51, ty_52, ty_53, ty_54, ty_55, ty_56, ty_57, ty_58, ty_59, ty_60, ty_61, ty_62, ty_63, ty_64, ty_65, ty_66, ty_67, ty_68, ty_69, ty_70, ty_71, ty_72, ty_73, ty_74, ty_75, ty_76, ty_77, ty_78, pl_3_7, pl_3_12, pl_3_14, pl_3_15, pl_3_17, pl_4_12, pl_5_7, pl_6_16, pl_6_21, pl_7_3, pl_7_7, pl_8_5, pl_12_3, pl_13_1, pl_13_11, pl_15_6, pl_16_8, pl_17_4, pl_19_5, pl_19_12, pl_24_5, pl_24_12, pl_26_1, pl_27_2, pl_28_3, pl_30_3, pl_33_2, hty, hpl, evEq]
    exact ⟨_, _, ⟨rfl, rfl⟩, New.keep ⟨by simp; omega, fun j hj => by simp only [T.get_set_ite]; rw [if_neg (by omega), if_neg (by omega)]⟩, by simp [AV.wk]⟩
  · refine ⟨rfl, [.ptr (some (s, 0)), a.av, b.av], wks_cons.2 ⟨wk_ptr hs.hs, wks_cons.2 ⟨wk_mono (Nat.zero_le _) hx, wks1.2 (wk_mono (Nat.zero_le _) hy)⟩⟩, ?_⟩
    simp only [uniF] at hu
    cases hha : headF d sd a with
    | none => rw [hha] at hu; simp at hu
    | some a' =>
      cases hhb : headF d sd b with
      | none => rw [hha, hhb] at hu; obtain ⟨oa, na, ka⟩ := a'; simp at hu
      | some b' =>
        have hga' := headF_good hha hga hsg
        have hgb' := headF_good hhb hgb hsg
        rw [hha, hhb] at hu
        obtain ⟨oa, na, ka⟩ := a'
        obtain ⟨ob, nb, kb⟩ := b'
        simp only at hu
        have hls := hs.hs
        have hlm := hs.hm
        have hv : ∀ o, natsBeq o varS = natsBeq o [118, 97, 114] := fun _ => rfl
        simp only [hv] at hu
        -- the heap behind the boxes; behind the heads
        have hq1 := c27 k27 (Ty.av_bare 0 a) (h := ⟨(h.t.set h.nx (.cells a.av.cells)).set (h.nx + 1) (.cells b.av.cells), h.nx + 1 + 1⟩) (hs.mono (by simp; omega) (by simp only [T.get_set_ite]; rw [if_neg (by omega), if_neg (by omega)]) (by simp only [T.get_set_ite]; rw [if_neg (by omega), if_neg (by omega)])) hha
        have hq2 := c27 k27 (Ty.av_bare 0 b) (h := ⟨(h.t.set h.nx (.cells a.av.cells)).set (h.nx + 1) (.cells b.av.cells), h.nx + 1 + 1⟩) (hs.mono (by simp; omega) (by simp only [T.get_set_ite]; rw [if_neg (by omega), if_neg (by omega)]) (by simp only [T.get_set_ite]; rw [if_neg (by omega), if_neg (by omega)])) hhb
        have hb2 : ∀ c1 c2 c3 c4 : Ev.Obj, PSub ⟨(((h.t.set h.nx c1).set (h.nx + 1) c2).set h.nx c3).set (h.nx + 1) c4, h.nx + 1 + 1⟩ s m nx sd := fun c1 c2 c3 c4 =>
          hs.mono (by simp; omega) (by simp only [T.get_set_ite]; rw [if_neg (by omega), if_neg (by omega), if_neg (by omega), if_neg (by omega)]) (by simp only [T.get_set_ite]; rw [if_neg (by omega), if_neg (by omega), if_neg (by omega), if_neg (by omega)])
        have keepS : ∀ c1 c2 c3 c4 : Ev.Obj, sd' = sd → Keep h ⟨(((h.t.set h.nx c1).set (h.nx + 1) c2).set h.nx c3).set (h.nx + 1) c4, h.nx + 1 + 1⟩ (h.put m (.map (esOf sd'))) := fun c1 c2 c3 c4 e =>
          keep_put hlm (fun id hi hm => by simp only [T.get_set_ite]; rw [if_neg (by omega), if_neg (by omega), if_neg (by omega), if_neg (by omega)]) (by simp only [T.get_set_ite]; rw [if_neg (by omega), if_neg (by omega), if_neg (by omega), if_neg (by omega), e]; exact hs.cm) (fun k => esOf_wk k sd')
        have keepP : ∀ (c1 c2 c3 c4 : Ev.Obj) (h1 : H), Only m ⟨(((h.t.set h.nx c1).set (h.nx + 1) c2).set h.nx c3).set (h.nx + 1) c4, h.nx + 1 + 1⟩ h1 → h1.t.get m = some (.map (esOf sd')) → Keep h h1 (h.put m (.map (esOf sd'))) := fun c1 c2 c3 c4 h1 ho hm1 =>
          keep_put hlm (fun id hi hm => by rw [ho.2 id (by simp; omega) hm]; simp only [T.get_set_ite]; rw [if_neg (by omega), if_neg (by omega), if_neg (by omega), if_neg (by omega)]) hm1 (fun k => esOf_wk k sd')
        rw [ha, hb] at hq1 hq2
        rw [ha, hb]
        simp only [AV.cells, Ty.av] at hq1 hq2
        unfold bodyL
        simp only [Try.f12]
        cases cA : natsBeq oa [118, 97, 114] with
        | true =>
          cases cB : natsBeq ob [118, 97, 114] with
          | true =>
            cases cN : intBeq na nb with
            | true =>
              simp [cA, cB, cN] at hu
              obtain ⟨rfl, rfl⟩ := hu
              simp [cdL_seq, cdL_region, cdL_drawn, cdL_cond, cdL_block, cdL_skip, cdL_label, cdL_exit, cdL_ret, endL, evSeq, evOne, evAct, evOp, opKind, evPure, evRead, evNew, evWrite, evSlice, natOf, optVal, readAt, AV.cells, wantedA, putTm, val, allVals, evBin, evInt, evStr, evAppend, denseFrom, sizesAre, onesIn, evPlan, recheck, AV.beq_refl, H.new, H.put, fillF, fillAt, allOne, AV.one, setArgs, evRes, resOf, ofVal, ofVal0, blt_dec, ble_dec, beq_dec, T.get_set_ite, T.get_e, isShift, ikBeq, ty_0, ty_1, ty_2, ty_3, ty_4, ty_5, ty_6, ty_7, ty_8, ty_9, ty_10, ty_11, ty_12, ty_13, ty_14, ty_15, ty_16, ty_17, ty_18, ty_19, ty_20, ty_21, ty_22, ty_23, ty_24, ty_25, ty_26, ty_27, ty_28, ty_29, ty_30, ty_31, ty_32, ty_33, ty_34, ty_35, ty_36, ty_37, ty_38, ty_39, ty_40, ty_41, ty_42, ty_43, ty_44, ty_45, ty_46, ty_47, ty_48, ty_49, ty_50, ty_51, ty_52, ty_53, ty_54, ty_55, ty_56, ty_57, ty_58, ty_59, ty_60, ty_61, ty_62, ty_63, ty_64, ty_65, ty_66, ty_67, ty_68, ty_69, ty_70, ty_71, ty_72, ty_73, ty_74, ty_75, ty_76, ty_77, ty_78, pl_3_7, pl_3_12, pl_3_14, pl_3_15, pl_3_17, pl_4_12, pl_5_7, pl_6_16, pl_6_21, pl_7_3, pl_7_7, pl_8_5, pl_12_3, pl_13_1, pl_13_11, pl_15_6, pl_16_8, pl_17_4, pl_19_5, pl_19_12, pl_24_5, pl_24_12, pl_26_1, pl_27_2, pl_28_3, pl_30_3, pl_33_2, nq2, nq3, nq4, nq5, nr2, nr3, nr4, nr5, hty, hpl, evEq, hq1, hq2, cA, cB, cN, bytesOf]
              exact ⟨_, _, ⟨rfl, rfl⟩, keepS _ _ _ _ rfl, by simp [AV.wk]⟩
            | false =>
              simp [cA, cB, cN] at hu
              have hcall := fun c1 c2 c3 c4 => c28 k28 hgb' (hb2 c1 c2 c3 c4) hsg (headF_var hha (by rw [hv]; exact cA)) hu
              simp only [Ty.av] at hcall
              simp [cdL_seq, cdL_region, cdL_drawn, cdL_cond, cdL_block, cdL_skip, cdL_label, cdL_exit, cdL_ret, endL, evSeq, evOne, evAct, evOp, opKind, evPure, evRead, evNew, evWrite, evSlice, natOf, optVal, readAt, AV.cells, wantedA, putTm, val, allVals, evBin, evInt, evStr, evAppend, denseFrom, sizesAre, onesIn, evPlan, recheck, AV.beq_refl, H.new, H.put, fillF, fillAt, allOne, AV.one, setArgs, evRes, resOf, ofVal, ofVal0, blt_dec, ble_dec, beq_dec, T.get_set_ite, T.get_e, isShift, ikBeq, ty_0, ty_1, ty_2, ty_3, ty_4, ty_5, ty_6, ty_7, ty_8, ty_9, ty_10, ty_11, ty_12, ty_13, ty_14, ty_15, ty_16, ty_17, ty_18, ty_19, ty_20, ty_21, ty_22, ty_23, ty_24, ty_25, ty_26, ty_27, ty_28, ty_29, ty_30, ty_31, ty_32, ty_33, ty_34, ty_35, ty_36, ty_37, ty_38, ty_39, ty_40, ty_41, ty_42, ty_43, ty_44, ty_45, ty_46, ty_47, ty_48, ty_49, ty_50, ty_51, ty_52, ty_53, ty_54, ty_55, ty_56, ty_57, ty_58, ty_59, ty_60, ty_61, ty_62, ty_63, ty_64, ty_65, ty_66, ty_67, ty_68, ty_69, ty_70, ty_71, ty_72, ty_73, ty_74, ty_75, ty_76, ty_77, ty_78, pl_3_7, pl_3_12, pl_3_14, pl_3_15, pl_3_17, pl_4_12, pl_5_7, pl_6_16, pl_6_21, pl_7_3, pl_7_7, pl_8_5, pl_12_3, pl_13_1, pl_13_11, pl_15_6, pl_16_8, pl_17_4, pl_19_5, pl_19_12, pl_24_5, pl_24_12, pl_26_1, pl_27_2, pl_28_3, pl_30_3, pl_33_2, nq2, nq3, nq4, nq5, nr2, nr3, nr4, nr5, hty, hpl, evEq, hq1, hq2, cA, cB, cN, bytesOf, hcall]
              exact ⟨_, _, ⟨rfl, rfl⟩, keepP _ _ _ _ _ ⟨by simp, fun j hj hjm => by simp only [H.put]; rw [T.get_set_ite, if_neg hjm]⟩ (by simp [T.get_set_ite]), by simp [AV.wk]⟩
          | false =>
            simp [cA, cB] at hu
            have hcall := fun c1 c2 c3 c4 => c28 k28 hgb' (hb2 c1 c2 c3 c4) hsg (headF_var hha (by rw [hv]; exact cA)) hu
            simp only [Ty.av] at hcall
            simp [cdL_seq, cdL_region, cdL_drawn, cdL_cond, cdL_block, cdL_skip, cdL_label, cdL_exit, cdL_ret, endL, evSeq, evOne, evAct, evOp, opKind, evPure, evRead, evNew, evWrite, evSlice, natOf, optVal, readAt, AV.cells, wantedA, putTm, val, allVals, evBin, evInt, evStr, evAppend, denseFrom, sizesAre, onesIn, evPlan, recheck, AV.beq_refl, H.new, H.put, fillF, fillAt, allOne, AV.one, setArgs, evRes, resOf, ofVal, ofVal0, blt_dec, ble_dec, beq_dec, T.get_set_ite, T.get_e, isShift, ikBeq, ty_0, ty_1, ty_2, ty_3, ty_4, ty_5, ty_6, ty_7, ty_8, ty_9, ty_10, ty_11, ty_12, ty_13, ty_14, ty_15, ty_16, ty_17, ty_18, ty_19, ty_20, ty_21, ty_22, ty_23, ty_24, ty_25, ty_26, ty_27, ty_28, ty_29, ty_30, ty_31, ty_32, ty_33, ty_34, ty_35, ty_36, ty_37, ty_38, ty_39, ty_40, ty_41, ty_42, ty_43, ty_44, ty_45, ty_46, ty_47, ty_48, ty_49, ty_50, ty_51, ty_52, ty_53, ty_54, ty_55, ty_56, ty_57, ty_58, ty_59, ty_60, ty_61, ty_62, ty_63, ty_64, ty_65, ty_66, ty_67, ty_68, ty_69, ty_70, ty_71, ty_72, ty_73, ty_74, ty_75, ty_76, ty_77, ty_78, pl_3_7, pl_3_12, pl_3_14, pl_3_15, pl_3_17, pl_4_12, pl_5_7, pl_6_16, pl_6_21, pl_7_3, pl_7_7, pl_8_5, pl_12_3, pl_13_1, pl_13_11, pl_15_6, pl_16_8, pl_17_4, pl_19_5, pl_19_12, pl_24_5, pl_24_12, pl_26_1, pl_27_2, pl_28_3, pl_30_3, pl_33_2, nq2, nq3, nq4, nq5, nr2, nr3, nr4, nr5, hty, hpl, evEq, hq1, hq2, cA, cB, bytesOf, hcall]
            exact ⟨_, _, ⟨rfl, rfl⟩, keepP _ _ _ _ _ ⟨by simp, fun j hj hjm => by simp only [H.put]; rw [T.get_set_ite, if_neg hjm]⟩ (by simp [T.get_set_ite]), by simp [AV.wk]⟩
        | false =>
          cases cB : natsBeq ob [118, 97, 114] with
          | true =>
            simp [cA, cB] at hu
            have hcall := fun c1 c2 c3 c4 => c28 k28 hga' (hb2 c1 c2 c3 c4) hsg (headF_var hhb (by rw [hv]; exact cB)) hu
            simp only [Ty.av] at hcall
            simp [cdL_seq, cdL_region, cdL_drawn, cdL_cond, cdL_block, cdL_skip, cdL_label, cdL_exit, cdL_ret, endL, evSeq, evOne, evAct, evOp, opKind, evPure, evRead, evNew, evWrite, evSlice, natOf, optVal, readAt, AV.cells, wantedA, putTm, val, allVals, evBin, evInt, evStr, evAppend, denseFrom, sizesAre, onesIn, evPlan, recheck, AV.beq_refl, H.new, H.put, fillF, fillAt, allOne, AV.one, setArgs, evRes, resOf, ofVal, ofVal0, blt_dec, ble_dec, beq_dec, T.get_set_ite, T.get_e, isShift, ikBeq, ty_0, ty_1, ty_2, ty_3, ty_4, ty_5, ty_6, ty_7, ty_8, ty_9, ty_10, ty_11, ty_12, ty_13, ty_14, ty_15, ty_16, ty_17, ty_18, ty_19, ty_20, ty_21, ty_22, ty_23, ty_24, ty_25, ty_26, ty_27, ty_28, ty_29, ty_30, ty_31, ty_32, ty_33, ty_34, ty_35, ty_36, ty_37, ty_38, ty_39, ty_40, ty_41, ty_42, ty_43, ty_44, ty_45, ty_46, ty_47, ty_48, ty_49, ty_50, ty_51, ty_52, ty_53, ty_54, ty_55, ty_56, ty_57, ty_58, ty_59, ty_60, ty_61, ty_62, ty_63, ty_64, ty_65, ty_66, ty_67, ty_68, ty_69, ty_70, ty_71, ty_72, ty_73, ty_74, ty_75, ty_76, ty_77, ty_78, pl_3_7, pl_3_12, pl_3_14, pl_3_15, pl_3_17, pl_4_12, pl_5_7, pl_6_16, pl_6_21, pl_7_3, pl_7_7, pl_8_5, pl_12_3, pl_13_1, pl_13_11, pl_15_6, pl_16_8, pl_17_4, pl_19_5, pl_19_12, pl_24_5, pl_24_12, pl_26_1, pl_27_2, pl_28_3, pl_30_3, pl_33_2, nq2, nq3, nq4, nq5, nr2, nr3, nr4, nr5, hty, hpl, evEq, hq1, hq2, cA, cB, bytesOf, hcall]
            exact ⟨_, _, ⟨rfl, rfl⟩, keepP _ _ _ _ _ ⟨by simp, fun j hj hjm => by simp only [H.put]; rw [T.get_set_ite, if_neg hjm]⟩ (by simp [T.get_set_ite]), by simp [AV.wk]⟩
          | false =>
            cases cO : natsBeq oa ob with
            | false =>
              simp [cA, cB, cO] at hu
              obtain ⟨rfl, rfl⟩ := hu
              simp [cdL_seq, cdL_region, cdL_drawn, cdL_cond, cdL_block, cdL_skip, cdL_label, cdL_exit, cdL_ret, endL, evSeq, evOne, evAct, evOp, opKind, evPure, evRead, evNew, evWrite, evSlice, natOf, optVal, readAt, AV.cells, wantedA, putTm, val, allVals, evBin, evInt, evStr, evAppend, denseFrom, sizesAre, onesIn, evPlan, recheck, AV.beq_refl, H.new, H.put, fillF, fillAt, allOne, AV.one, setArgs, evRes, resOf, ofVal, ofVal0, blt_dec, ble_dec, beq_dec, T.get_set_ite, T.get_e, isShift, ikBeq, ty_0, ty_1, ty_2, ty_3, ty_4, ty_5, ty_6, ty_7, ty_8, ty_9, ty_10, ty_11, ty_12, ty_13, ty_14, ty_15, ty_16, ty_17, ty_18, ty_19, ty_20, ty_21, ty_22, ty_23, ty_24, ty_25, ty_26, ty_27, ty_28, ty_29, ty_30, ty_31, ty_32, ty_33, ty_34, ty_35, ty_36, ty_37, ty_38, ty_39, ty_40, ty_41, ty_42, ty_43, ty_44, ty_45, ty_46, ty_47, ty_48, ty_49, ty_50, ty_51, ty_52, ty_53, ty_54, ty_55, ty_56, ty_57, ty_58, ty_59, ty_60, ty_61, ty_62, ty_63, ty_64, ty_65, ty_66, ty_67, ty_68, ty_69, ty_70, ty_71, ty_72, ty_73, ty_74, ty_75, ty_76, ty_77, ty_78, pl_3_7, pl_3_12, pl_3_14, pl_3_15, pl_3_17, pl_4_12, pl_5_7, pl_6_16, pl_6_21, pl_7_3, pl_7_7, pl_8_5, pl_12_3, pl_13_1, pl_13_11, pl_15_6, pl_16_8, pl_17_4, pl_19_5, pl_19_12, pl_24_5, pl_24_12, pl_26_1, pl_27_2, pl_28_3, pl_30_3, pl_33_2, nq2, nq3, nq4, nq5, nr2, nr3, nr4, nr5, hty, hpl, evEq, hq1, hq2, cA, cB, cO, bytesOf]
              exact ⟨_, _, ⟨rfl, rfl⟩, keepS _ _ _ _ rfl, by simp [AV.wk]⟩
            | true =>
              cases cL : intBeq ↑ka.length ↑kb.length with
              | false =>
                simp [cA, cB, cO, cL] at hu
                obtain ⟨rfl, rfl⟩ := hu
                have hcall := fun f h => eq_ne hty hpl k29 f29 (k1 := ka) (k2 := kb) f h cL
                simp [cdL_seq, cdL_region, cdL_drawn, cdL_cond, cdL_block, cdL_skip, cdL_label, cdL_exit, cdL_ret, endL, evSeq, evOne, evAct, evOp, opKind, evPure, evRead, evNew, evWrite, evSlice, natOf, optVal, readAt, AV.cells, wantedA, putTm, val, allVals, evBin, evInt, evStr, evAppend, denseFrom, sizesAre, onesIn, evPlan, recheck, AV.beq_refl, H.new, H.put, fillF, fillAt, allOne, AV.one, setArgs, evRes, resOf, ofVal, ofVal0, blt_dec, ble_dec, beq_dec, T.get_set_ite, T.get_e, isShift, ikBeq, ty_0, ty_1, ty_2, ty_3, ty_4, ty_5, ty_6, ty_7, ty_8, ty_9, ty_10, ty_11, ty_12, ty_13, ty_14, ty_15, ty_16, ty_17, ty_18, ty_19, ty_20, ty_21, ty_22, ty_23, ty_24, ty_25, ty_26, ty_27, ty_28, ty_29, ty_30, ty_31, ty_32, ty_33, ty_34, ty_35, ty_36, ty_37, ty_38, ty_39, ty_40, ty_41, ty_42, ty_43, ty_44, ty_45, ty_46, ty_47, ty_48, ty_49, ty_50, ty_51, ty_52, ty_53, ty_54, ty_55, ty_56, ty_57, ty_58, ty_59, ty_60, ty_61, ty_62, ty_63, ty_64, ty_65, ty_66, ty_67, ty_68, ty_69, ty_70, ty_71, ty_72, ty_73, ty_74, ty_75, ty_76, ty_77, ty_78, pl_3_7, pl_3_12, pl_3_14, pl_3_15, pl_3_17, pl_4_12, pl_5_7, pl_6_16, pl_6_21, pl_7_3, pl_7_7, pl_8_5, pl_12_3, pl_13_1, pl_13_11, pl_15_6, pl_16_8, pl_17_4, pl_19_5, pl_19_12, pl_24_5, pl_24_12, pl_26_1, pl_27_2, pl_28_3, pl_30_3, pl_33_2, nq2, nq3, nq4, nq5, nr2, nr3, nr4, nr5, hty, hpl, evEq, hq1, hq2, cA, cB, cO, bytesOf, hcall]
                exact ⟨_, _, ⟨rfl, rfl⟩, keepS _ _ _ _ rfl, by simp [AV.wk]⟩
              | true =>
                simp [cA, cB, cO, cL] at hu
                simp only [good] at hga' hgb'
                have hle : ka.length = kb.length := by have := intBeq_iff.1 cL; omega
                obtain ⟨h1, r1, r2, r3⟩ := eq_run hty hpl k29 f29 (uni12_of hprim) hga'.1 hle hga'.2 hgb'.2 (hb2 (.cells [.str a0, .int .i64 a1, .sl .no a2]) (.cells [.str b0, .int .i64 b1, .sl .no b2]) (.cells [.str oa, .int .i64 na, .sl .no (Ty.avs ka)]) (.cells [.str ob, .int .i64 nb, .sl .no (Ty.avs kb)])) hsg hu
                simp [cdL_seq, cdL_region, cdL_drawn, cdL_cond, cdL_block, cdL_skip, cdL_label, cdL_exit, cdL_ret, endL, evSeq, evOne, evAct, evOp, opKind, evPure, evRead, evNew, evWrite, evSlice, natOf, optVal, readAt, AV.cells, wantedA, putTm, val, allVals, evBin, evInt, evStr, evAppend, denseFrom, sizesAre, onesIn, evPlan, recheck, AV.beq_refl, H.new, H.put, fillF, fillAt, allOne, AV.one, setArgs, evRes, resOf, ofVal, ofVal0, blt_dec, ble_dec, beq_dec, T.get_set_ite, T.get_e, isShift, ikBeq, ty_0, ty_1, ty_2, ty_3, ty_4, ty_5, ty_6, ty_7, ty_8, ty_9, ty_10, ty_11, ty_12, ty_13, ty_14, ty_15, ty_16, ty_17, ty_18, ty_19, ty_20, ty_21, ty_22, ty_23, ty_24, ty_25, ty_26, ty_27, ty_28, ty_29, ty_30, ty_31, ty_32, ty_33, ty_34, ty_35, ty_36, ty_37, ty_38, ty_39, ty_40, ty_41, ty_42, ty_43, ty_44, ty_45, ty_46, ty_47, ty_48, ty_49, ty_50, ty_51, ty_52, ty_53, ty_54, ty_55, ty_56, ty_57, ty_58, ty_59, ty_60, ty_61, ty_62, ty_63, ty_64, ty_65, ty_66, ty_67, ty_68, ty_69, ty_70, ty_71, ty_72, ty_73, ty_74, ty_75, ty_76, ty_77, ty_78, pl_3_7, pl_3_12, pl_3_14, pl_3_15, pl_3_17, pl_4_12, pl_5_7, pl_6_16, pl_6_21, pl_7_3, pl_7_7, pl_8_5, pl_12_3, pl_13_1, pl_13_11, pl_15_6, pl_16_8, pl_17_4, pl_19_5, pl_19_12, pl_24_5, pl_24_12, pl_26_1, pl_27_2, pl_28_3, pl_30_3, pl_33_2, nq2, nq3, nq4, nq5, nr2, nr3, nr4, nr5, hty, hpl, evEq, hq1, hq2, cA, cB, cO, bytesOf, r1]
                exact ⟨_, _, ⟨rfl, rfl⟩, keepP _ _ _ _ _ r2 r3, by simp [AV.wk]⟩
noncomputable abbrev p12 := ofRelH fun args h v hk => ∃ d, R12 d args h v hk
theorem p12_ok : PrimOk Try.prog 12 p12 := prim_union pd12_ok fun a h r hr => by
  obtain ⟨v, k⟩ := r
  obtain ⟨d, hd⟩ := ofRelH_some hr
  exact ⟨d, ofRelH_of hd fun u k' hu => R12_uniq hu hd⟩
theorem c12 {E : Env} (hp : E.prim 12 = some p12) {d s m : Nat} {nx : Int} {sd sd' : Sd} {x y : AV} {a b : Ty} {ok : Bool} {h : H} (hx : x.wk 0 a.av) (hy : y.wk 0 b.av) (h1 : good a) (h2 : good b) (h3 : PSub h s m nx sd) (h4 : goodS sd) (h5 : uniF d sd a b = some (ok, sd')) :
    evL E 12 [.ptr (some (s, 0)), x, y] h = some (.bool ok, h.put m (.map (esOf sd'))) := by
  rw [evL_prim E hp]
  have hr : R12 d [.ptr (some (s, 0)), x, y] h (.bool ok) (h.put m (.map (esOf sd'))) := ⟨x, y, a, b, hx, hy, h1, h2, .inr ⟨s, m, nx, sd, sd', ok, rfl, h3, h4, h5, rfl, rfl⟩⟩
  exact ofRelH_of ⟨d, hr⟩ fun v k ⟨d', hu⟩ => R12_uniq hu hr
theorem c12n {E : Env} (hp : E.prim 12 = some p12) {x y : AV} {a b : Ty} {h : H} (hx : x.wk 0 a.av) (hy : y.wk 0 b.av) (h1 : good a) (h2 : good b) : evL E 12 [.ptr none, x, y] h = some (.bool false, h) := by
  rw [evL_prim E hp]
  have hr : R12 1 [.ptr none, x, y] h (.bool false) h := ⟨x, y, a, b, hx, hy, h1, h2, .inl ⟨rfl, rfl, rfl, by omega⟩⟩
  exact ofRelH_of ⟨1, hr⟩ fun v k ⟨d', hu⟩ => R12_uniq hu hr
end Go.Proofs.Ytiifjjcoepgobaa.Env
