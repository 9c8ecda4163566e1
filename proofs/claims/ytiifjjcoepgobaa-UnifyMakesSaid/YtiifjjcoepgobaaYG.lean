/- A type by all that is said: the program's Of. -/
import Derived.Test.YtiifjjcoepgobaaYF
set_option autoImplicit false
set_option maxRecDepth 100000
set_option linter.unusedSimpArgs false
set_option linter.unusedVariables false
set_option linter.unusedSectionVars false
namespace Go.Proofs.Ytiifjjcoepgobaa.Env
open Go.Ev

mutual
/-- Not too many kids. -/
def good : Ty → Prop
  | .mk _ _ ks => ks.length ≤ 1000000 ∧ goods ks
def goods : List Ty → Prop
  | [] => True
  | t :: l => good t ∧ goods l
end
theorem goods_mem : ∀ {l : List Ty}, goods l ↔ ∀ t ∈ l, good t
  | [] => by simp [goods]
  | t :: l => by simp [goods, goods_mem (l := l)]
theorem wk_av {x : AV} {a b : Ty} (h1 : x.wk 0 a.av) (h2 : x.wk 0 b.av) : a = b := Ty.av_inj h1 h2
theorem c27 {E : Env} (hp : E.prim 27 = some p27) {s m : Nat} {nx : Int} {sd : Sd} {x : AV} {t u : Ty} {f : Nat} {h : H} (hx : x.wk 0 t.av) (hs : PSub h s m nx sd) (hu : headF f sd t = some u) : evL E 27 [.ptr (some (s, 0)), x] h = some (u.av, h) := by
  rw [evL_prim E hp]
  refine ofRelH_of ⟨s, m, nx, sd, x, t, u, f, rfl, hx, hs, hu, rfl, rfl⟩ fun v k ⟨s', m', nx', sd', x', t', u', f', ha, hx', hs', hu', hv, hk⟩ => ⟨?_, hk⟩
  simp at ha
  obtain ⟨rfl, rfl⟩ := ha
  obtain ⟨_, _, rfl⟩ := hs.uniq hs'
  obtain rfl := wk_av hx hx'
  have h1 := headF_mono (Nat.le_max_left f f') hu
  have h2 := headF_mono (Nat.le_max_right f f') hu'
  rw [h1] at h2
  rw [hv, Option.some.inj h2]
/-- Only new objects. -/
def New (h h' : H) : Prop := h.nx ≤ h'.nx ∧ ∀ j, j < h.nx → h'.t.get j = h.t.get j
theorem New.refl (h : H) : New h h := ⟨Nat.le_refl _, fun _ _ => rfl⟩
theorem New.trans {h h' h'' : H} (a : New h h') (c : New h' h'') : New h h'' := ⟨Nat.le_trans a.1 c.1, fun j hj => by rw [c.2 j (by have := a.1; omega), a.2 j hj]⟩
theorem New.psub {h h' : H} (a : New h h') {s m : Nat} {nx : Int} {sd : Sd} (p : PSub h s m nx sd) : PSub h' s m nx sd := p.mono a.1 (a.2 s p.hs) (a.2 m p.hm)
theorem New.keep {h h' : H} (a : New h h') : Keep h h' h := Keep.same fun id hi => a.2 id hi

theorem avs_add (l : List Ty) (u : Ty) : Ty.avs l ++ [u.av] = Ty.avs (l ++ [u]) := by simp [Ty.avs_map]
theorem avs_sizes : ∀ l : List Ty, sizesAre 3 (Ty.avs l) = true
  | [] => rfl
  | t :: l => by
    obtain ⟨o, n, ks, e⟩ := av_cells t
    simp [Ty.avs, e, sizesAre, AV.cells, avs_sizes l, beq_dec]
def R16 (d : Nat) (args : List AV) (h : H) (v : AV) (hk : H) : Prop := ∃ (x : AV) (t u : Ty), x.wk 0 t.av ∧ v = u.av ∧ hk = h ∧ good t ∧
  ((args = [.ptr none, x] ∧ u = t ∧ 0 < d) ∨ ∃ (s m : Nat) (nx : Int) (sd : Sd), args = [.ptr (some (s, 0)), x] ∧ PSub h s m nx sd ∧ (∀ p ∈ sd, good p.2) ∧ ofF d sd t = some u)
noncomputable abbrev pd16 (d : Nat) := ofRelH (R16 d)
theorem c16d {E : Env} {d : Nat} (hp : E.prim 16 = some (pd16 d)) {s m : Nat} {nx : Int} {sd : Sd} {x : AV} {t u : Ty} {h : H} (hx : x.wk 0 t.av) (hf : good t) (hs : PSub h s m nx sd) (hsf : ∀ p ∈ sd, good p.2) (hu : ofF d sd t = some u) : evL E 16 [.ptr (some (s, 0)), x] h = some (u.av, h) := by
  rw [evL_prim E hp]
  refine ofRelH_of ⟨x, t, u, hx, rfl, rfl, hf, .inr ⟨s, m, nx, sd, rfl, hs, hsf, hu⟩⟩ fun v k ⟨x', t', u', hx', hv, hk, _, hc⟩ => ⟨?_, hk⟩
  rcases hc with ⟨ha, _⟩ | ⟨s', m', nx', sd', ha, hs', _, hu'⟩
  · simp at ha
  · simp at ha
    obtain ⟨rfl, rfl⟩ := ha
    obtain ⟨_, _, rfl⟩ := hs.uniq hs'
    obtain rfl := wk_av hx hx'
    rw [hu] at hu'
    rw [hv, Option.some.inj hu']
theorem look_mem {sd : Sd} {n : Int} {t : Ty} (h : look sd n = some t) : ∃ p ∈ sd, p.2 = t := by
  induction sd with
  | nil => simp [look] at h
  | cons p l ih =>
    obtain ⟨k, u⟩ := p
    simp only [look] at h
    cases hb : intBeq n k with
    | true => rw [hb] at h; exact ⟨(k, u), List.mem_cons_self .., Option.some.inj h⟩
    | false => rw [hb] at h; obtain ⟨p, h1, h2⟩ := ih h; exact ⟨p, List.mem_cons_of_mem _ h1, h2⟩
theorem headF_good : ∀ {f : Nat} {sd : Sd} {t u : Ty}, headF f sd t = some u → good t → (∀ p ∈ sd, good p.2) → good u
  | 0, _, _, _, h, _, _ => by simp [headF] at h
  | f + 1, sd, .mk o n ks, u, h, ht, hs => by
    simp only [headF] at h
    cases hv : natsBeq o varS with
    | false => rw [hv] at h; simp only [cond_false, Option.some.injEq] at h; rw [← h]; exact ht
    | true =>
      rw [hv] at h
      simp only [cond_true] at h
      cases hl : look sd n with
      | none => rw [hl] at h; simp only [Option.some.injEq] at h; rw [← h]; exact ht
      | some w =>
        rw [hl] at h
        obtain ⟨p, h1, h2⟩ := look_mem hl
        exact headF_good h (by rw [← h2]; exact hs p h1) hs
noncomputable def b16_0 : Code := loopOf Try.f16 0
theorem body16 : Try.f16.body = some (.seq (codeAt Try.f16 [0]) (.seq (codeAt Try.f16 [1, 0]) (.seq (codeAt Try.f16 [1, 1, 0]) (.seq (codeAt Try.f16 [1, 1, 1, 0]) (.seq (.seq (codeAt Try.f16 [1, 1, 1, 1, 0, 0]) (.block 0 (.loop b16_0))) (codeAt Try.f16 [1, 1, 1, 1, 1])))))) := rfl
theorem loop16 {E : Env} (hty : E.ty = env.ty) (hpl : E.plan = env.plan) {s m p : Nat} {nx : Int} {sd : Sd} {a : List Nat} {n : Int} {ks : List Ty} {d : Nat} (hl : ks.length ≤ 1000000) (hf : goods ks) {h0 : H} (hs : PSub h0 s m nx sd) (hp0 : h0.nx ≤ p)
    (hc : ∀ t u h, good t → PSub h s m nx sd → ofF d sd t = some u → evL E 16 [.ptr (some (s, 0)), t.av] h = some (u.av, h)) :
    ∀ (l us done : List Ty) (i : Nat) (o : Own) {tm : Tm} {h : H} {x : Option (Ex × Tm × H)}, cdL E 16 36 (.loop b16_0) tm h = x → all0 (ofF d sd) l = some us → l = ks.drop i → i ≤ ks.length → done.length = i →
    New h0 h → h.t.get p = some (.cells [.str a, .int .i64 n, .sl o (Ty.avs done)]) → p < h.nx → RowE 25 3 h o (Ty.avs done) → (∀ id, o = .ch id → h0.nx ≤ id) →
    tm.get 0 = some (.ptr (some (s, 0))) → tm.get 5 = some (.ptr (some (p, 0))) → tm.get 20 = some (.sl .no (Ty.avs ks)) → tm.get 21 = some (.int .i64 ↑ks.length) → tm.get 22 = some (.int .i64 ↑i) →
    ∃ tm' h' o', x = some (.exit 0, tm', h') ∧ tm'.get 4 = tm.get 4 ∧ tm'.get 5 = some (.ptr (some (p, 0))) ∧ h'.t.get p = some (.cells [.str a, .int .i64 n, .sl o' (Ty.avs (done ++ us))]) ∧ New h0 h' ∧ (∀ j, j < h.nx → j ≠ p → o ≠ .ch j → h'.t.get j = h.t.get j) ∧ h.nx ≤ h'.nx
  | [], us, done, i, o, tm, h, x, hx, hus, hd, hi, hdl, hnew, hz, hpn, hr, hoo, g0, g5, g20, g21, g22 => by
    have hlen := dnil hd hi
    simp only [all0, Option.some.injEq] at hus
    subst hus
    obtain ⟨R, hR, hx⟩ := loop_step hx
    simp [b16_0, loopOf, Try.f16, loops, cdL_seq, cdL_region, cdL_drawn, cdL_cond, cdL_block, cdL_skip, cdL_label, cdL_exit, cdL_ret, endL, evSeq, evOne, evAct, evOp, opKind, evPure, evRead, evNew, evWrite, evSlice, natOf, optVal, readAt, AV.cells, wantedA, putTm, val, allVals, evBin, evInt, evStr, evAppend, denseFrom, sizesAre, onesIn, evPlan, recheck, AV.beq_refl, H.new, H.put, fillF, fillAt, allOne, AV.one, setArgs, evRes, resOf, ofVal, ofVal0, blt_dec, ble_dec, beq_dec, T.get_set_ite, T.get_e, isShift, ikBeq, ty_0, ty_1, ty_2, ty_3, ty_4, ty_5, ty_6, ty_7, ty_8, ty_9, ty_10, ty_11, ty_12, ty_13, ty_14, ty_15, ty_16, ty_17, ty_18, ty_19, ty_20, ty_21, ty_22, ty_23, ty_24, ty_25, ty_26, ty_27, ty_28, ty_29, ty_30, ty_31, ty_32, ty_33, ty_34, ty_35, ty_36, ty_37, ty_38, ty_39, ty_40, ty_41, ty_42, ty_43, ty_44, ty_45, ty_46, ty_47, ty_48, ty_49, ty_50, ty_51, ty_52, ty_53, ty_54, ty_55, ty_56, ty_57, ty_58, ty_59, ty_60, ty_61, ty_62, ty_63, ty_64, ty_65, ty_66, ty_67, ty_68, ty_69, ty_70, ty_71, ty_72, ty_73, ty_74, ty_75, ty_76, ty_77, ty_78, pl_3_7, pl_3_12, pl_3_14, pl_3_15, pl_3_17, pl_4_12, pl_5_7, pl_6_16, pl_6_21, pl_7_3, pl_7_7, pl_8_5, pl_12_3, pl_13_1, pl_13_11, pl_15_6, pl_16_8, pl_17_4, pl_19_5, pl_19_12, pl_24_5, pl_24_12, pl_26_1, pl_27_2, pl_28_3, pl_30_3, pl_33_2, lp, hty, hpl, g0, g5, g20, g21, g22, hlen, ltI_f] at hx
    exact ⟨_, h, o, by rw [← hx], by simp [T.get_set_ite], by simp [T.get_set_ite, g5], by simpa using hz, hnew, fun _ _ _ _ => rfl, Nat.le_refl _⟩
  | t :: l, us, done, i, o, tm, h, x, hx, hus, hdr, hi, hdl, hnew, hz, hpn, hr, hoo, g0, g5, g20, g21, g22 => by
    obtain ⟨hlt, hct, hd'⟩ := dcons hdr
    have hat := avs_get hct
    have htm := List.mem_of_getElem? hct
    simp only [all0] at hus
    cases hu : ofF d sd t with
    | none => rw [hu] at hus; simp at hus
    | some u =>
      rw [hu] at hus
      simp only at hus
      cases hul : all0 (ofF d sd) l with
      | none => rw [hul] at hus; simp at hus
      | some ul =>
        rw [hul] at hus
        simp only [Option.some.injEq] at hus
        subst hus
        obtain ⟨R, hR, hx⟩ := loop_step hx
        have hlt' := ltI_t hlt
        have hw := wr_succ (i := i) (by omega)
        have hps := hnew.psub hs
        have hn1 := hnew.1
        have hcall : ∀ h', New h h' → evL E 16 [.ptr (some (s, 0)), t.av] h' = some (u.av, h') := fun h' hn => hc t u h' (goods_mem.1 hf t htm) (hn.psub hps) hu
        have hc1 := hcall ⟨(h.t.set h.nx (.cells [.str [], .int .i64 0, .sl .full []])).set h.nx (.cells t.av.cells), h.nx + 1⟩ ⟨by simp, fun j hj => by simp only [T.get_set_ite]; rw [if_neg (by omega), if_neg (by omega)]⟩
        obtain ⟨t0, t1, t2, ht⟩ := av_cells t
        obtain ⟨u0, u1, u2, hu'⟩ := av_cells u
        have hadd := avs_add done u
        have hsz := avs_sizes done
        have hdl2 := avs_len done
        have hby : (done.length + 1) * 48 ≤ 140737488355328 := by omega
        rw [ht] at hat hc1
        rw [hu'] at hc1 hadd
        simp only [AV.cells] at hc1
        have hpx : p ≠ h.nx := by omega
        have hpx2 : h.nx ≠ p := by omega
        have hpx3 : p ≠ h.nx + 1 := by omega
        rcases hr with ⟨rfl, e0⟩ | ⟨id, rfl, hg, hid⟩
        · have eL : done = [] := by cases done with | nil => rfl | cons a l => simp [Ty.avs] at e0
          subst eL
          simp only [Ty.avs] at hz hadd
          simp [b16_0, loopOf, Try.f16, loops, cdL_seq, cdL_region, cdL_drawn, cdL_cond, cdL_block, cdL_skip, cdL_label, cdL_exit, cdL_ret, endL, evSeq, evOne, evAct, evOp, opKind, evPure, evRead, evNew, evWrite, evSlice, natOf, optVal, readAt, AV.cells, wantedA, putTm, val, allVals, evBin, evInt, evStr, evAppend, denseFrom, sizesAre, onesIn, evPlan, recheck, AV.beq_refl, H.new, H.put, fillF, fillAt, allOne, AV.one, setArgs, evRes, resOf, ofVal, ofVal0, blt_dec, ble_dec, beq_dec, T.get_set_ite, T.get_e, isShift, ikBeq, ty_0, ty_1, ty_2, ty_3, ty_4, ty_5, ty_6, ty_7, ty_8, ty_9, ty_10, ty_11, ty_12, ty_13, ty_14, ty_15, ty_16, ty_17, ty_18, ty_19, ty_20, ty_21, ty_22, ty_23, ty_24, ty_25, ty_26, ty_27, ty_28, ty_29, ty_30, ty_31, ty_32, ty_33, ty_34, ty_35, ty_36, ty_37, ty_38, ty_39, ty_40, ty_41, ty_42, ty_43, ty_44, ty_45, ty_46, ty_47, ty_48, ty_49, ty_50, ty_51, ty_52, ty_53, ty_54, ty_55, ty_56, ty_57, ty_58, ty_59, ty_60, ty_61, ty_62, ty_63, ty_64, ty_65, ty_66, ty_67, ty_68, ty_69, ty_70, ty_71, ty_72, ty_73, ty_74, ty_75, ty_76, ty_77, ty_78, pl_3_7, pl_3_12, pl_3_14, pl_3_15, pl_3_17, pl_4_12, pl_5_7, pl_6_16, pl_6_21, pl_7_3, pl_7_7, pl_8_5, pl_12_3, pl_13_1, pl_13_11, pl_15_6, pl_16_8, pl_17_4, pl_19_5, pl_19_12, pl_24_5, pl_24_12, pl_26_1, pl_27_2, pl_28_3, pl_30_3, pl_33_2, lp, hty, hpl, g0, g5, g20, g21, g22, hlt', hat, hw, hc1, hz, hpx, hpx2, hpx3] at hx
          rw [hR] at hx
          simp only [List.nil_append] at hadd
          have hpx4 : h.nx + 1 ≠ p := by omega
          obtain ⟨tm', h', o', q1, q2, q3, q4, q5, q6, q7⟩ := loop16 hty hpl (a := a) (n := n) hl hf hs hp0 hc l ul [u] (i + 1) (.ch (h.nx + 1)) hx hul hd' hlt (by simp at hdl ⊢; omega)
            ⟨by simp; omega, fun j hj => by simp only [T.get_set_ite]; rw [if_neg (by omega), if_neg (by omega), if_neg (by omega), if_neg (by omega)]; exact hnew.2 j hj⟩ (by simp [T.get_set_ite, hadd]) (by simp; omega) (.inr ⟨_, rfl, by simp [T.get_set_ite, hpx4, Ty.avs], by simp⟩) (fun id e => by cases e; omega) (by simp [T.get_set_ite, g0]) (by simp [T.get_set_ite, g5]) (by simp [T.get_set_ite, g20]) (by simp [T.get_set_ite, g21]) (by simp [T.get_set_ite])
          refine ⟨tm', h', o', q1, by rw [q2]; simp [T.get_set_ite], q3, by simpa using q4, q5, fun j hj hjp ho => ?_, by simp at q7; omega⟩
          rw [q6 j (by simp; omega) hjp (by simp; omega)]
          simp only [T.get_set_ite]
          rw [if_neg hjp, if_neg (by omega), if_neg (by omega), if_neg (by omega)]
        · have hpi : p ≠ id := by rintro rfl; rw [hz] at hg; cases hg
          have hip : id ≠ p := fun e => hpi e.symm
          have hin : id ≠ h.nx := by omega
          have hidh : h0.nx ≤ id := hoo id rfl
          rw [hdl2] at hg
          simp [b16_0, loopOf, Try.f16, loops, cdL_seq, cdL_region, cdL_drawn, cdL_cond, cdL_block, cdL_skip, cdL_label, cdL_exit, cdL_ret, endL, evSeq, evOne, evAct, evOp, opKind, evPure, evRead, evNew, evWrite, evSlice, natOf, optVal, readAt, AV.cells, wantedA, putTm, val, allVals, evBin, evInt, evStr, evAppend, denseFrom, sizesAre, onesIn, evPlan, recheck, AV.beq_refl, H.new, H.put, fillF, fillAt, allOne, AV.one, setArgs, evRes, resOf, ofVal, ofVal0, blt_dec, ble_dec, beq_dec, T.get_set_ite, T.get_e, isShift, ikBeq, ty_0, ty_1, ty_2, ty_3, ty_4, ty_5, ty_6, ty_7, ty_8, ty_9, ty_10, ty_11, ty_12, ty_13, ty_14, ty_15, ty_16, ty_17, ty_18, ty_19, ty_20, ty_21, ty_22, ty_23, ty_24, ty_25, ty_26, ty_27, ty_28, ty_29, ty_30, ty_31, ty_32, ty_33, ty_34, ty_35, ty_36, ty_37, ty_38, ty_39, ty_40, ty_41, ty_42, ty_43, ty_44, ty_45, ty_46, ty_47, ty_48, ty_49, ty_50, ty_51, ty_52, ty_53, ty_54, ty_55, ty_56, ty_57, ty_58, ty_59, ty_60, ty_61, ty_62, ty_63, ty_64, ty_65, ty_66, ty_67, ty_68, ty_69, ty_70, ty_71, ty_72, ty_73, ty_74, ty_75, ty_76, ty_77, ty_78, pl_3_7, pl_3_12, pl_3_14, pl_3_15, pl_3_17, pl_4_12, pl_5_7, pl_6_16, pl_6_21, pl_7_3, pl_7_7, pl_8_5, pl_12_3, pl_13_1, pl_13_11, pl_15_6, pl_16_8, pl_17_4, pl_19_5, pl_19_12, pl_24_5, pl_24_12, pl_26_1, pl_27_2, pl_28_3, pl_30_3, pl_33_2, lp, hty, hpl, g0, g5, g20, g21, g22, hlt', hat, hw, hc1, hz, hpx, hpx2, hpx3, hg, hpi, hip, hin, hsz, hdl2, hby, hadd] at hx
          rw [hR] at hx
          obtain ⟨tm', h', o', q1, q2, q3, q4, q5, q6, q7⟩ := loop16 hty hpl (a := a) (n := n) hl hf hs hp0 hc l ul (done ++ [u]) (i + 1) (.ch id) hx hul hd' hlt (by simp; omega)
            ⟨by simp; omega, fun j hj => by simp only [T.get_set_ite]; rw [if_neg (by omega), if_neg (by omega), if_neg (by omega), if_neg (by omega)]; exact hnew.2 j hj⟩ (by simp [T.get_set_ite]) (by simp; omega) (.inr ⟨_, rfl, by simp [T.get_set_ite, hip, avs_len], by simp; omega⟩) hoo (by simp [T.get_set_ite, g0]) (by simp [T.get_set_ite, g5]) (by simp [T.get_set_ite, g20]) (by simp [T.get_set_ite, g21]) (by simp [T.get_set_ite])
          refine ⟨tm', h', o', q1, by rw [q2]; simp [T.get_set_ite], q3, by simpa using q4, q5, fun j hj hjp ho => ?_, by simp at q7; omega⟩
          have hji : j ≠ id := fun e => ho (by rw [e])
          rw [q6 j (by simp; omega) hjp ho]
          simp only [T.get_set_ite]
          rw [if_neg hjp, if_neg hji, if_neg (by omega), if_neg (by omega)]
theorem ofF_zero (sd : Sd) (t : Ty) : ofF 0 sd t = none := rfl
theorem goods_all {sd : Sd} {f : Nat} {t u : Ty} (h : headF f sd t = some u) (ht : good t) (hs : ∀ p ∈ sd, good p.2) : good u := headF_good h ht hs
theorem pd16_ok : ∀ d, PrimOk Try.prog 16 (pd16 d) := prim_rec (addPrim_ok envA_ok p27_ok) (prim_none Try.func16 (by kernel_rfl) (by kernel_rfl) fun a h => by
    cases he : pd16 0 a h with
    | none => rfl
    | some r =>
      obtain ⟨v, k⟩ := r
      obtain ⟨x, t, u, _, _, _, _, hc⟩ := ofRelH_some he
      rcases hc with ⟨_, _, h0⟩ | ⟨s, m, nx, sd, _, _, _, hu⟩
      · omega
      · simp [ofF] at hu) fun d hE => prim_of hE (fn := Try.f16) (by kernel_rfl) body16 fun args h v hk hr => by
  obtain ⟨x, t, u, hx, rfl, rfl, hgt, hc⟩ := ofRelH_some hr
  have hprim : (addPrim (addPrim envA 27 p27) 16 (pd16 d)).prim 16 = some (pd16 d) := by kernel_rfl
  have hprim27 : (addPrim (addPrim envA 27 p27) 16 (pd16 d)).prim 27 = some p27 := by kernel_rfl
  generalize hEe : addPrim (addPrim envA 27 p27) 16 (pd16 d) = E at *
  have hty : E.ty = env.ty := by rw [← hEe]; rfl
  have hpl : E.plan = env.plan := by rw [← hEe]; rfl
  rcases hc with ⟨rfl, rfl, _⟩ | ⟨s, m, nx, sd, rfl, hs, hsg, hu⟩
  · refine ⟨rfl, [.ptr none, u.av], wks_cons.2 ⟨by simp [AV.wk], wks1.2 (wk_mono (Nat.zero_le _) hx)⟩, ?_⟩
    obtain ⟨a, b, c, e⟩ := av_cells u
    unfold bodyL
    simp only [codeAt, sub, Try.f16]
    have hb := Ty.av_bare hk.nx u
    rw [e] at hb ⊢
    simp [cdL_seq, cdL_region, cdL_drawn, cdL_cond, cdL_block, cdL_skip, cdL_label, cdL_exit, cdL_ret, endL, evSeq, evOne, evAct, evOp, opKind, evPure, evRead, evNew, evWrite, evSlice, natOf, optVal, readAt, AV.cells, wantedA, putTm, val, allVals, evBin, evInt, evStr, evAppend, denseFrom, sizesAre, onesIn, evPlan, recheck, AV.beq_refl, H.new, H.put, fillF, fillAt, allOne, AV.one, setArgs, evRes, resOf, ofVal, ofVal0, blt_dec, ble_dec, beq_dec, T.get_set_ite, T.get_e, isShift, ikBeq, ty_0, ty_1, ty_2, ty_3, ty_4, ty_5, ty_6, ty_7, ty_8, ty_9, ty_10, ty_11, ty_12, ty_13, ty_14, ty_15, ty_16, ty_17, ty_18, ty_19, ty_20, ty_21, ty_22, ty_23, ty_24, ty_25, ty_26, ty_27, ty_28, ty_29, ty_30, ty_31, ty_32, ty_33, ty_34, ty_35, ty_36, ty_37, ty_38, ty_39, ty_40, ty_41, ty_42, ty_43, ty_44, ty_45, ty_46, ty_47, ty_48, ty_49, ty_50, ty_51, ty_52, ty_53, ty_54, ty_55, ty_56, ty_57, ty_58, ty_59, ty_60, ty_61, ty_62, ty_63, ty_64, ty_65, ty_66, ty_67, ty_68, ty_69, ty_70, ty_71, ty_72, ty_73, ty_74, ty_75, ty_76, ty_77, ty_78, pl_3_7, pl_3_12, pl_3_14, pl_3_15, pl_3_17, pl_4_12, pl_5_7, pl_6_16, pl_6_21, pl_7_3, pl_7_7, pl_8_5, pl_12_3, pl_13_1, pl_13_11, pl_15_6, pl_16_8, pl_17_4, pl_19_5, pl_19_12, pl_24_5, pl_24_12, pl_26_1, pl_27_2, pl_28_3, pl_30_3, pl_33_2, hty, hpl, evEq]
    exact ⟨_, _, ⟨rfl, rfl⟩, New.keep ⟨by simp; omega, fun j hj => by simp only [T.get_set_ite]; rw [if_neg (by omega), if_neg (by omega), if_neg (by omega)]⟩, hb⟩
  · refine ⟨rfl, [.ptr (some (s, 0)), t.av], wks_cons.2 ⟨wk_ptr hs.hs, wks1.2 (wk_mono (Nat.zero_le _) hx)⟩, ?_⟩
    simp only [ofF] at hu
    cases hh : headF d sd t with
    | none => rw [hh] at hu; simp at hu
    | some w =>
      rw [hh] at hu
      have hgw := headF_good hh hgt hsg
      obtain ⟨o, n, ks⟩ := w
      simp only at hu
      cases hus : all0 (ofF d sd) ks with
      | none => rw [hus] at hu; simp at hu
      | some us =>
        rw [hus] at hu
        simp only [Option.some.injEq] at hu
        subst hu
        simp only [good] at hgw
        have hcall : ∀ t u h, good t → PSub h s m nx sd → ofF d sd t = some u → evL E 16 [.ptr (some (s, 0)), t.av] h = some (u.av, h) := fun t u h h1 h2 h3 => c16d hprim (Ty.av_bare 0 t) h1 h2 hsg h3
        have hs1 := hs.hs
        have hm1 := hs.hm
        have hhead : ∀ h', New hk h' → evL E 27 [.ptr (some (s, 0)), t.av] h' = some ((Ty.mk o n ks).av, h') := fun h' hn => c27 hprim27 (Ty.av_bare 0 t) (hn.psub hs) hh
        have hh1 := hhead ⟨(hk.t.set hk.nx (.cells t.av.cells)).set (hk.nx + 1) (.cells [.str [], .int .i64 0, .sl .full []]), hk.nx + 1 + 1⟩ ⟨by simp; omega, fun j hj => by simp only [T.get_set_ite]; rw [if_neg (by omega), if_neg (by omega)]⟩
        have hL := fun (x : Option (Ex × Tm × H)) tm h => loop16 hty hpl (p := hk.nx + 1 + 1) (a := o) (n := n) (ks := ks) hgw.1 hgw.2 hs (by omega) hcall ks us [] 0 .full (x := x) (tm := tm) (h := h)
        obtain ⟨t0, t1, t2, ht⟩ := av_cells t
        rw [ht] at hh1 ⊢
        simp only [AV.cells, Ty.av] at hh1
        unfold bodyL
        simp only [codeAt, sub, Try.f16]
        have hlen := avs_len ks
        simp [cdL_seq, cdL_region, cdL_drawn, cdL_cond, cdL_block, cdL_skip, cdL_label, cdL_exit, cdL_ret, endL, evSeq, evOne, evAct, evOp, opKind, evPure, evRead, evNew, evWrite, evSlice, natOf, optVal, readAt, AV.cells, wantedA, putTm, val, allVals, evBin, evInt, evStr, evAppend, denseFrom, sizesAre, onesIn, evPlan, recheck, AV.beq_refl, H.new, H.put, fillF, fillAt, allOne, AV.one, setArgs, evRes, resOf, ofVal, ofVal0, blt_dec, ble_dec, beq_dec, T.get_set_ite, T.get_e, isShift, ikBeq, ty_0, ty_1, ty_2, ty_3, ty_4, ty_5, ty_6, ty_7, ty_8, ty_9, ty_10, ty_11, ty_12, ty_13, ty_14, ty_15, ty_16, ty_17, ty_18, ty_19, ty_20, ty_21, ty_22, ty_23, ty_24, ty_25, ty_26, ty_27, ty_28, ty_29, ty_30, ty_31, ty_32, ty_33, ty_34, ty_35, ty_36, ty_37, ty_38, ty_39, ty_40, ty_41, ty_42, ty_43, ty_44, ty_45, ty_46, ty_47, ty_48, ty_49, ty_50, ty_51, ty_52, ty_53, ty_54, ty_55, ty_56, ty_57, ty_58, ty_59, ty_60, ty_61, ty_62, ty_63, ty_64, ty_65, ty_66, ty_67, ty_68, ty_69, ty_70, ty_71, ty_72, ty_73, ty_74, ty_75, ty_76, ty_77, ty_78, pl_3_7, pl_3_12, pl_3_14, pl_3_15, pl_3_17, pl_4_12, pl_5_7, pl_6_16, pl_6_21, pl_7_3, pl_7_7, pl_8_5, pl_12_3, pl_13_1, pl_13_11, pl_15_6, pl_16_8, pl_17_4, pl_19_5, pl_19_12, pl_24_5, pl_24_12, pl_26_1, pl_27_2, pl_28_3, pl_30_3, pl_33_2, nq2, nq3, nq4, nq5, nr2, nr3, nr4, nr5, hty, hpl, evEq, hh1, hlen]
        generalize hx' : cdL E 16 36 (.loop b16_0) _ _ = x'
        obtain ⟨tm', h', o', rfl, q1, q2, q3, q4, q5, q6⟩ := hL x' _ _ hx' hus rfl (Nat.zero_le _) rfl ⟨by simp; omega, fun j hj => by simp only [T.get_set_ite]; repeat rw [if_neg (by omega)]⟩ (by simp [T.get_set_ite, Ty.avs]) (by simp) (.inl ⟨rfl, rfl⟩) (fun id e => by cases e) (by simp [T.get_set_ite]) (by simp [T.get_set_ite]) (by simp [T.get_set_ite]) (by simp [T.get_set_ite]) (by simp [T.get_set_ite])
        simp [T.get_set_ite] at q1
        have hz4 : h'.t.get (hk.nx + 1) = some (.cells [.str [], .int .i64 0, .sl .full []]) := by
          rw [q5 (hk.nx + 1) (by simp) (by omega) (by simp)]
          simp [T.get_set_ite]
        simp [cdL_seq, cdL_region, cdL_drawn, cdL_cond, cdL_block, cdL_skip, cdL_label, cdL_exit, cdL_ret, endL, evSeq, evOne, evAct, evOp, opKind, evPure, evRead, evNew, evWrite, evSlice, natOf, optVal, readAt, AV.cells, wantedA, putTm, val, allVals, evBin, evInt, evStr, evAppend, denseFrom, sizesAre, onesIn, evPlan, recheck, AV.beq_refl, H.new, H.put, fillF, fillAt, allOne, AV.one, setArgs, evRes, resOf, ofVal, ofVal0, blt_dec, ble_dec, beq_dec, T.get_set_ite, T.get_e, isShift, ikBeq, ty_0, ty_1, ty_2, ty_3, ty_4, ty_5, ty_6, ty_7, ty_8, ty_9, ty_10, ty_11, ty_12, ty_13, ty_14, ty_15, ty_16, ty_17, ty_18, ty_19, ty_20, ty_21, ty_22, ty_23, ty_24, ty_25, ty_26, ty_27, ty_28, ty_29, ty_30, ty_31, ty_32, ty_33, ty_34, ty_35, ty_36, ty_37, ty_38, ty_39, ty_40, ty_41, ty_42, ty_43, ty_44, ty_45, ty_46, ty_47, ty_48, ty_49, ty_50, ty_51, ty_52, ty_53, ty_54, ty_55, ty_56, ty_57, ty_58, ty_59, ty_60, ty_61, ty_62, ty_63, ty_64, ty_65, ty_66, ty_67, ty_68, ty_69, ty_70, ty_71, ty_72, ty_73, ty_74, ty_75, ty_76, ty_77, ty_78, pl_3_7, pl_3_12, pl_3_14, pl_3_15, pl_3_17, pl_4_12, pl_5_7, pl_6_16, pl_6_21, pl_7_3, pl_7_7, pl_8_5, pl_12_3, pl_13_1, pl_13_11, pl_15_6, pl_16_8, pl_17_4, pl_19_5, pl_19_12, pl_24_5, pl_24_12, pl_26_1, pl_27_2, pl_28_3, pl_30_3, pl_33_2, hty, hpl, q1, q2, q3, hz4]
        refine ⟨_, _, ⟨rfl, rfl⟩, New.keep ⟨by simpa using q4.1, fun j hj => ?_⟩, ?_⟩
        · simp only [T.get_set_ite]
          rw [if_neg (by omega)]
          exact q4.2 j hj
        · have := Ty.av_bare hk.nx (.mk o n us)
          simp only [Ty.av, wk_agg, wks_cons, wk_sl] at this ⊢
          exact ⟨this.1, this.2.1, ⟨own_no, this.2.2.1.2⟩, this.2.2.2⟩
/-- Of, however deep. -/
def R16' (args : List AV) (h : H) (v : AV) (hk : H) : Prop := ∃ d, R16 d args h v hk
noncomputable abbrev p16 := ofRelH R16'
theorem R16_mono {d e : Nat} (hd : d ≤ e) {args : List AV} {h : H} {v : AV} {hk : H} (r : R16 d args h v hk) : R16 e args h v hk := by
  obtain ⟨x, t, u, h1, h2, h3, h4, hc⟩ := r
  refine ⟨x, t, u, h1, h2, h3, h4, ?_⟩
  rcases hc with ⟨a, b, c⟩ | ⟨s, m, nx, sd, a, b, c, e1⟩
  · exact .inl ⟨a, b, by omega⟩
  · exact .inr ⟨s, m, nx, sd, a, b, c, ofF_mono hd e1⟩
theorem R16_uniq {d e : Nat} {args : List AV} {h : H} {v v' : AV} {k k' : H} (a : R16 d args h v k) (b : R16 e args h v' k') : v = v' ∧ k = k' := by
  obtain ⟨x, t, u, h1, rfl, rfl, h4, hc⟩ := R16_mono (Nat.le_max_left d e) a
  obtain ⟨x', t', u', h1', rfl, rfl, h4', hc'⟩ := R16_mono (Nat.le_max_right d e) b
  refine ⟨?_, rfl⟩
  rcases hc with ⟨a, b, c⟩ | ⟨s, m, nx, sd, a, b, c, e1⟩ <;> rcases hc' with ⟨a', b', c'⟩ | ⟨s', m', nx', sd', a', b', c', e1'⟩ <;> rw [a] at a' <;> simp at a'
  · subst a'
    rw [b, b', wk_av h1 h1']
  · obtain ⟨rfl, rfl⟩ := a'
    obtain ⟨_, _, rfl⟩ := b.uniq b'
    obtain rfl := wk_av h1 h1'
    rw [e1] at e1'
    rw [Option.some.inj e1']
theorem p16_ok : PrimOk Try.prog 16 p16 := prim_union pd16_ok fun a h r hr => by
  obtain ⟨v, k⟩ := r
  obtain ⟨d, hd⟩ := ofRelH_some hr
  exact ⟨d, ofRelH_of hd fun u k' hu => R16_uniq hu hd⟩
theorem c16 {E : Env} (hp : E.prim 16 = some p16) {d : Nat} {s m : Nat} {nx : Int} {sd : Sd} {x : AV} {t u : Ty} {h : H} (hx : x.wk 0 t.av) (hf : good t) (hs : PSub h s m nx sd) (hsf : ∀ p ∈ sd, good p.2) (hu : ofF d sd t = some u) : evL E 16 [.ptr (some (s, 0)), x] h = some (u.av, h) := by
  rw [evL_prim E hp]
  have hr : R16 d [.ptr (some (s, 0)), x] h u.av h := ⟨x, t, u, hx, rfl, rfl, hf, .inr ⟨s, m, nx, sd, rfl, hs, hsf, hu⟩⟩
  exact ofRelH_of ⟨d, hr⟩ fun v k ⟨d', hu'⟩ => R16_uniq hu' hr
theorem c16n {E : Env} (hp : E.prim 16 = some p16) {x : AV} {t : Ty} {h : H} (hx : x.wk 0 t.av) (hf : good t) : evL E 16 [.ptr none, x] h = some (t.av, h) := by
  rw [evL_prim E hp]
  have hr : R16 1 [.ptr none, x] h t.av h := ⟨x, t, t, hx, rfl, rfl, hf, .inl ⟨rfl, rfl, by omega⟩⟩
  exact ofRelH_of ⟨1, hr⟩ fun v k ⟨d', hu'⟩ => R16_uniq hu' hr
end Go.Proofs.Ytiifjjcoepgobaa.Env
