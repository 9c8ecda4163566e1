/- The reference's Of. -/
import Derived.Test.YtiifjjcoepgobaaYT
import Derived.Test.YtiifjjcoepgobaaYV
set_option autoImplicit false
set_option maxRecDepth 100000
set_option linter.unusedSimpArgs false
set_option linter.unusedVariables false
set_option linter.unusedSectionVars false
namespace Go.Proofs.Ytiifjjcoepgobaa.Env
open Go.Ev

/-- The reference's state. -/
structure RSt (h : H) (s : Nat) (o1 o2 : Own) (S : Sd) : Prop where
  cs : h.t.get s = some (.cells [.sl o1 (ints (S.map (·.1))), .sl o2 (Ty.avs (S.map (·.2))), .int .i64 0])
  hs : s < h.nx
theorem ints_inj : ∀ {a b : List Int}, ints a = ints b → a = b
  | [], [], _ => rfl
  | [], _ :: _, h => by simp [ints] at h
  | _ :: _, [], h => by simp [ints] at h
  | x :: a, y :: b, h => by
    simp only [ints, List.map_cons, List.cons.injEq, AV.int.injEq, true_and] at h
    rw [h.1, ints_inj h.2]
theorem avs_inj : ∀ {a b : List Ty}, Ty.avs a = Ty.avs b → a = b
  | [], [], _ => rfl
  | [], _ :: _, h => by simp [Ty.avs] at h
  | _ :: _, [], h => by simp [Ty.avs] at h
  | x :: a, y :: b, h => by
    simp only [Ty.avs, List.cons.injEq] at h
    rw [av_same h.1, avs_inj h.2]
theorem sd_ext : ∀ {a b : Sd}, a.map (·.1) = b.map (·.1) → a.map (·.2) = b.map (·.2) → a = b
  | [], [], _, _ => rfl
  | [], _ :: _, h, _ => by simp at h
  | _ :: _, [], h, _ => by simp at h
  | (x, t) :: a, (y, u) :: b, h1, h2 => by
    simp only [List.map_cons, List.cons.injEq] at h1 h2
    rw [h1.1, h2.1, sd_ext h1.2 h2.2]
theorem RSt.uniq {h : H} {s : Nat} {o1 o2 p1 p2 : Own} {S S' : Sd} (a : RSt h s o1 o2 S) (b : RSt h s p1 p2 S') : S = S' := by
  have := a.cs.symm.trans b.cs
  simp at this
  exact sd_ext (ints_inj this.1.2) (avs_inj this.2.2)
theorem RSt.mono {h h' : H} {s : Nat} {o1 o2 : Own} {S : Sd} (a : RSt h s o1 o2 S) (b : New h h') : RSt h' s o1 o2 S := ⟨by rw [b.2 s a.hs]; exact a.cs, by have := a.hs; have := b.1; omega⟩
def R19 (d : Nat) (args : List AV) (h : H) (v : AV) (hk : H) : Prop := ∃ (x : AV) (t u : Ty) (s : Nat) (o1 o2 : Own) (S : Sd), x.wk 0 t.av ∧ args = [.ptr (some (s, 0)), x] ∧ v = u.av ∧ hk = h ∧ good t ∧ goodS S ∧ S.length ≤ 1000000 ∧ RSt h s o1 o2 S ∧ roF d S t = some u
noncomputable abbrev pd19 (d : Nat) := ofRelH (R19 d)
theorem R19_uniq {d e : Nat} {args : List AV} {h : H} {v v' : AV} {k k' : H} (a : R19 d args h v k) (b : R19 e args h v' k') : v = v' ∧ k = k' := by
  obtain ⟨x, t, u, s, o1, o2, S, h1, rfl, rfl, rfl, h2, h3, h4, h5, h6⟩ := a
  obtain ⟨x', t', u', s', o1', o2', S', h1', he, rfl, rfl, h2', h3', h4', h5', h6'⟩ := b
  simp at he
  obtain ⟨rfl, rfl⟩ := he
  obtain rfl := h5.uniq h5'
  obtain rfl := wk_av h1 h1'
  exact ⟨by rw [Ro.uniq ⟨d, h6⟩ ⟨e, h6'⟩], rfl⟩
theorem c19d {E : Env} {d : Nat} (hp : E.prim 19 = some (pd19 d)) {s : Nat} {o1 o2 : Own} {S : Sd} {x : AV} {t u : Ty} {h : H} (hx : x.wk 0 t.av) (hf : good t) (hg : goodS S) (hl : S.length ≤ 1000000) (hs : RSt h s o1 o2 S) (hu : roF d S t = some u) : evL E 19 [.ptr (some (s, 0)), x] h = some (u.av, h) := by
  rw [evL_prim E hp]
  have hr : R19 d [.ptr (some (s, 0)), x] h u.av h := ⟨x, t, u, s, o1, o2, S, hx, rfl, rfl, rfl, hf, hg, hl, hs, hu⟩
  exact ofRelH_of hr fun v k hu => R19_uniq hu hr
noncomputable def b19_0 : Code := loopOf Try.f19 0
noncomputable def b19_1 : Code := loopOf Try.f19 1
theorem body19 : Try.f19.body = some (.seq (codeAt Try.f19 [0]) (.seq (.seq (codeAt Try.f19 [1, 0, 0]) (.cond (condAt Try.f19 [1, 0, 1]) (.seq (.seq (codeAt Try.f19 [1, 0, 1, 0, 0, 0]) (.block 0 (.loop b19_0))) (codeAt Try.f19 [1, 0, 1, 0, 1])) (codeAt Try.f19 [1, 0, 1, 1]))) (.seq (codeAt Try.f19 [1, 1, 0]) (.seq (.seq (codeAt Try.f19 [1, 1, 1, 0, 0]) (.block 2 (.loop b19_1))) (codeAt Try.f19 [1, 1, 1, 1]))))) := rfl
theorem loop19_0 {E : Env} (hty : E.ty = env.ty) (hpl : E.plan = env.plan) {s b3 b4 : Nat} {o1 o2 : Own} {S : Sd} {a : List Nat} {n : Int} {ks : List Ty} {d : Nat} (hl : S.length ≤ 1000000) (hgs : goodS S) {h : H} (hs : RSt h s o1 o2 S)
    (hc : ∀ t u, good t → roF d S t = some u → evL E 19 [.ptr (some (s, 0)), t.av] h = some (u.av, h))
    (z3 : h.t.get b3 = some (.cells [.str a, .int .i64 n, .sl .no (Ty.avs ks)])) (z4 : h.t.get b4 = some (.cells [.str [], .int .i64 0, .sl .full []])) :
    ∀ (l : Sd) (i : Nat) {tm : Tm} {x : Option (Ex × Tm × H)}, cdL E 19 65 (.loop b19_0) tm h = x → l = S.drop i → i ≤ S.length →
    tm.get 0 = some (.ptr (some (s, 0))) → tm.get 3 = some (.ptr (some (b3, 0))) → tm.get 4 = some (.ptr (some (b4, 0))) → tm.get 5 = some (.int .i64 ↑i) →
    match look l n with
    | none => ∃ tm', x = some (.exit 0, tm', h) ∧ tm'.get 3 = some (.ptr (some (b3, 0))) ∧ tm'.get 4 = some (.ptr (some (b4, 0)))
    | some w => ∀ u, roF d S w = some u → ∃ tm', x = some (.ret, tm', ⟨h.t.set b4 (.cells u.av.cells), h.nx⟩) ∧ tm'.get 4 = some (.ptr (some (b4, 0)))
  | [], i, tm, x, hx, hd, hi, g0, g3, g4, g5 => by
    have hlen := dnil hd hi
    have hil : (ints (S.map (·.1))).length = i := by rw [ints_len, List.length_map]; exact hlen
    have cs := hs.cs
    obtain ⟨R, hR, hx⟩ := loop_step hx
    simp [b19_0, loopOf, Try.f19, loops, cdL_seq, cdL_region, cdL_drawn, cdL_cond, cdL_block, cdL_skip, cdL_label, cdL_exit, cdL_ret, endL, evSeq, evOne, evAct, evOp, opKind, evPure, evRead, evNew, evWrite, evSlice, natOf, optVal, readAt, AV.cells, wantedA, putTm, val, allVals, evBin, evInt, evStr, evAppend, denseFrom, sizesAre, onesIn, evPlan, recheck, AV.beq_refl, H.new, H.put, fillF, fillAt, allOne, AV.one, setArgs, evRes, resOf, ofVal, ofVal0, blt_dec, ble_dec, beq_dec, T.get_set_ite, T.get_e, isShift, ikBeq, ty_0, ty_1, ty_2, ty_3, ty_4, ty_5, ty_6, ty_7, ty_8, ty_9, ty_10, ty_11, ty_12, ty_13, ty_14, ty_15, ty_16, ty_17, ty_18, ty_19, ty_20, ty_21, ty_22, ty_23, ty_24, ty_25, ty_26, ty_27, ty_28, ty_29, ty_30, ty_31, ty_32, ty_33, ty_34, ty_35, ty_36, ty_37, ty_38, ty_39, ty_40, ty_41, ty_42, ty_43, ty_44, ty_45, ty_46, ty_47, ty_48, ty_49, ty_50, ty_51, ty_52, ty_53, ty_54, ty_55, ty_56, ty_57, ty_58, ty_59, ty_60, ty_61, ty_62, ty_63, ty_64, ty_65, ty_66, ty_67, ty_68, ty_69, ty_70, ty_71, ty_72, ty_73, ty_74, ty_75, ty_76, ty_77, ty_78, pl_3_7, pl_3_12, pl_3_14, pl_3_15, pl_3_17, pl_4_12, pl_5_7, pl_6_16, pl_6_21, pl_7_3, pl_7_7, pl_8_5, pl_12_3, pl_13_1, pl_13_11, pl_15_6, pl_16_8, pl_17_4, pl_19_5, pl_19_12, pl_24_5, pl_24_12, pl_26_1, pl_27_2, pl_28_3, pl_30_3, pl_33_2, lp, hty, hpl, g0, g3, g4, g5, cs, hil, ltI_f] at hx
    exact ⟨_, hx.symm, by simp [T.get_set_ite, g3], by simp [T.get_set_ite, g4]⟩
  | (k, w) :: l, i, tm, x, hx, hd, hi, g0, g3, g4, g5 => by
    obtain ⟨hlt, hct, hd'⟩ := dcons hd
    have hil : (ints (S.map (·.1))).length = S.length := by rw [ints_len, List.length_map]
    have hic : (ints (S.map (·.1)))[i]? = some (.int .i64 k) := by unfold ints; rw [List.getElem?_map, List.getElem?_map, hct]; rfl
    have hat : (Ty.avs (S.map (·.2)))[i]? = some w.av := avs_get (by rw [List.getElem?_map, hct]; rfl)
    have hgw : good w := hgs (k, w) (List.mem_of_getElem? hct)
    have cs := hs.cs
    obtain ⟨R, hR, hx⟩ := loop_step hx
    have hlt' := ltI_t hlt
    have hw := wr_succ (i := i) (by omega)
    simp only [look]
    have hsym : intBeq k n = intBeq n k := by rw [intBeq_eq, intBeq_eq]; exact decide_eq_decide.2 ⟨Eq.symm, Eq.symm⟩
    cases hb : intBeq n k with
    | true =>
      rw [hb] at hsym
      simp only [cond_true]
      intro u hu
      have k19 := hc w u hgw hu
      obtain ⟨w0, w1, w2, hwa⟩ := av_cells w
      obtain ⟨u0, u1, u2, hua⟩ := av_cells u
      rw [hwa] at hat k19
      rw [hua] at k19 ⊢
      simp [b19_0, loopOf, Try.f19, loops, cdL_seq, cdL_region, cdL_drawn, cdL_cond, cdL_block, cdL_skip, cdL_label, cdL_exit, cdL_ret, endL, evSeq, evOne, evAct, evOp, opKind, evPure, evRead, evNew, evWrite, evSlice, natOf, optVal, readAt, AV.cells, wantedA, putTm, val, allVals, evBin, evInt, evStr, evAppend, denseFrom, sizesAre, onesIn, evPlan, recheck, AV.beq_refl, H.new, H.put, fillF, fillAt, allOne, AV.one, setArgs, evRes, resOf, ofVal, ofVal0, blt_dec, ble_dec, beq_dec, T.get_set_ite, T.get_e, isShift, ikBeq, ty_0, ty_1, ty_2, ty_3, ty_4, ty_5, ty_6, ty_7, ty_8, ty_9, ty_10, ty_11, ty_12, ty_13, ty_14, ty_15, ty_16, ty_17, ty_18, ty_19, ty_20, ty_21, ty_22, ty_23, ty_24, ty_25, ty_26, ty_27, ty_28, ty_29, ty_30, ty_31, ty_32, ty_33, ty_34, ty_35, ty_36, ty_37, ty_38, ty_39, ty_40, ty_41, ty_42, ty_43, ty_44, ty_45, ty_46, ty_47, ty_48, ty_49, ty_50, ty_51, ty_52, ty_53, ty_54, ty_55, ty_56, ty_57, ty_58, ty_59, ty_60, ty_61, ty_62, ty_63, ty_64, ty_65, ty_66, ty_67, ty_68, ty_69, ty_70, ty_71, ty_72, ty_73, ty_74, ty_75, ty_76, ty_77, ty_78, pl_3_7, pl_3_12, pl_3_14, pl_3_15, pl_3_17, pl_4_12, pl_5_7, pl_6_16, pl_6_21, pl_7_3, pl_7_7, pl_8_5, pl_12_3, pl_13_1, pl_13_11, pl_15_6, pl_16_8, pl_17_4, pl_19_5, pl_19_12, pl_24_5, pl_24_12, pl_26_1, pl_27_2, pl_28_3, pl_30_3, pl_33_2, lp, hty, hpl, g0, g3, g4, g5, cs, z3, z4, hil, hlt', hic, hat, hsym, k19] at hx
      exact ⟨_, hx.symm, by simp [T.get_set_ite, g4]⟩
    | false =>
      rw [hb] at hsym
      simp [b19_0, loopOf, Try.f19, loops, cdL_seq, cdL_region, cdL_drawn, cdL_cond, cdL_block, cdL_skip, cdL_label, cdL_exit, cdL_ret, endL, evSeq, evOne, evAct, evOp, opKind, evPure, evRead, evNew, evWrite, evSlice, natOf, optVal, readAt, AV.cells, wantedA, putTm, val, allVals, evBin, evInt, evStr, evAppend, denseFrom, sizesAre, onesIn, evPlan, recheck, AV.beq_refl, H.new, H.put, fillF, fillAt, allOne, AV.one, setArgs, evRes, resOf, ofVal, ofVal0, blt_dec, ble_dec, beq_dec, T.get_set_ite, T.get_e, isShift, ikBeq, ty_0, ty_1, ty_2, ty_3, ty_4, ty_5, ty_6, ty_7, ty_8, ty_9, ty_10, ty_11, ty_12, ty_13, ty_14, ty_15, ty_16, ty_17, ty_18, ty_19, ty_20, ty_21, ty_22, ty_23, ty_24, ty_25, ty_26, ty_27, ty_28, ty_29, ty_30, ty_31, ty_32, ty_33, ty_34, ty_35, ty_36, ty_37, ty_38, ty_39, ty_40, ty_41, ty_42, ty_43, ty_44, ty_45, ty_46, ty_47, ty_48, ty_49, ty_50, ty_51, ty_52, ty_53, ty_54, ty_55, ty_56, ty_57, ty_58, ty_59, ty_60, ty_61, ty_62, ty_63, ty_64, ty_65, ty_66, ty_67, ty_68, ty_69, ty_70, ty_71, ty_72, ty_73, ty_74, ty_75, ty_76, ty_77, ty_78, pl_3_7, pl_3_12, pl_3_14, pl_3_15, pl_3_17, pl_4_12, pl_5_7, pl_6_16, pl_6_21, pl_7_3, pl_7_7, pl_8_5, pl_12_3, pl_13_1, pl_13_11, pl_15_6, pl_16_8, pl_17_4, pl_19_5, pl_19_12, pl_24_5, pl_24_12, pl_26_1, pl_27_2, pl_28_3, pl_30_3, pl_33_2, lp, hty, hpl, g0, g3, g4, g5, cs, z3, z4, hil, hlt', hic, hat, hsym, hw] at hx
      rw [hR] at hx
      exact loop19_0 hty hpl hl hgs hs hc z3 z4 l (i + 1) hx hd' hlt (by simp [T.get_set_ite, g0]) (by simp [T.get_set_ite, g3]) (by simp [T.get_set_ite, g4]) (by simp [T.get_set_ite])
theorem loop19_1 {E : Env} (hty : E.ty = env.ty) (hpl : E.plan = env.plan) {s p b3 b4 : Nat} {o1 o2 : Own} {S : Sd} {a : List Nat} {n : Int} {ks : List Ty} {d : Nat} (hl : ks.length ≤ 1000000) (hf : goods ks) {h0 : H} (hs : RSt h0 s o1 o2 S) (hp0 : h0.nx ≤ p) (hb3 : h0.nx ≤ b3) (hb4 : h0.nx ≤ b4) (h3p : b3 ≠ p) (h4p : b4 ≠ p)
    (hc : ∀ t u h, good t → RSt h s o1 o2 S → roF d S t = some u → evL E 19 [.ptr (some (s, 0)), t.av] h = some (u.av, h)) :
    ∀ (l us done : List Ty) (i : Nat) (o : Own) {tm : Tm} {h : H} {x : Option (Ex × Tm × H)}, cdL E 19 65 (.loop b19_1) tm h = x → all0 (roF d S) l = some us → l = ks.drop i → i ≤ ks.length → done.length = i →
    New h0 h → h.t.get p = some (.cells [.str a, .int .i64 n, .sl o (Ty.avs done)]) → p < h.nx → h.t.get b3 = some (.cells [.str a, .int .i64 n, .sl .no (Ty.avs ks)]) → b3 < h.nx → h.t.get b4 = some (.cells [.str [], .int .i64 0, .sl .full []]) → b4 < h.nx → RowE 25 3 h o (Ty.avs done) → (∀ id, o = .ch id → h0.nx ≤ id) →
    tm.get 0 = some (.ptr (some (s, 0))) → tm.get 3 = some (.ptr (some (b3, 0))) → tm.get 4 = some (.ptr (some (b4, 0))) → tm.get 6 = some (.ptr (some (p, 0))) → tm.get 7 = some (.int .i64 ↑i) →
    ∃ tm' h' o', x = some (.exit 2, tm', h') ∧ tm'.get 4 = some (.ptr (some (b4, 0))) ∧ tm'.get 6 = some (.ptr (some (p, 0))) ∧ h'.t.get p = some (.cells [.str a, .int .i64 n, .sl o' (Ty.avs (done ++ us))]) ∧ New h0 h' ∧ h'.t.get b4 = some (.cells [.str [], .int .i64 0, .sl .full []]) ∧ p < h'.nx ∧ b4 < h'.nx
  | [], us, done, i, o, tm, h, x, hx, hus, hd, hi, hdl, hnew, hz, hpn, hz3, hn3, hz4, hn4, hr, hoo, g0, g3, g4, g6, g7 => by
    have hlen := dnil hd hi
    have hkl := avs_len ks
    rw [hlen] at hkl
    simp only [all0, Option.some.injEq] at hus
    subst hus
    obtain ⟨R, hR, hx⟩ := loop_step hx
    simp [b19_1, loopOf, Try.f19, loops, cdL_seq, cdL_region, cdL_drawn, cdL_cond, cdL_block, cdL_skip, cdL_label, cdL_exit, cdL_ret, endL, evSeq, evOne, evAct, evOp, opKind, evPure, evRead, evNew, evWrite, evSlice, natOf, optVal, readAt, AV.cells, wantedA, putTm, val, allVals, evBin, evInt, evStr, evAppend, denseFrom, sizesAre, onesIn, evPlan, recheck, AV.beq_refl, H.new, H.put, fillF, fillAt, allOne, AV.one, setArgs, evRes, resOf, ofVal, ofVal0, blt_dec, ble_dec, beq_dec, T.get_set_ite, T.get_e, isShift, ikBeq, ty_0, ty_1, ty_2, ty_3, ty_4, ty_5, ty_6, ty_7, ty_8, ty_9, ty_10, ty_11, ty_12, ty_13, ty_14, ty_15, ty_16, ty_17, ty_18, ty_19, ty_20, ty_21, ty_22, ty_23, ty_24, ty_25, ty_26, ty_27, ty_28, ty_29, ty_30, ty_31, ty_32, ty_33, ty_34, ty_35, ty_36, ty_37, ty_38, ty_39, ty_40, ty_41, ty_42, ty_43, ty_44, ty_45, ty_46, ty_47, ty_48, ty_49, ty_50, ty_51, ty_52, ty_53, ty_54, ty_55, ty_56, ty_57, ty_58, ty_59, ty_60, ty_61, ty_62, ty_63, ty_64, ty_65, ty_66, ty_67, ty_68, ty_69, ty_70, ty_71, ty_72, ty_73, ty_74, ty_75, ty_76, ty_77, ty_78, pl_3_7, pl_3_12, pl_3_14, pl_3_15, pl_3_17, pl_4_12, pl_5_7, pl_6_16, pl_6_21, pl_7_3, pl_7_7, pl_8_5, pl_12_3, pl_13_1, pl_13_11, pl_15_6, pl_16_8, pl_17_4, pl_19_5, pl_19_12, pl_24_5, pl_24_12, pl_26_1, pl_27_2, pl_28_3, pl_30_3, pl_33_2, lp, hty, hpl, g0, g3, g4, g6, g7, hz3, hkl, ltI_f] at hx
    exact ⟨_, h, o, by rw [← hx], by simp [T.get_set_ite, g4], by simp [T.get_set_ite, g6], by simpa using hz, hnew, hz4, hpn, hn4⟩
  | t :: l, us, done, i, o, tm, h, x, hx, hus, hdr, hi, hdl, hnew, hz, hpn, hz3, hn3, hz4, hn4, hr, hoo, g0, g3, g4, g6, g7 => by
    obtain ⟨hlt, hct, hd'⟩ := dcons hdr
    have hkl := avs_len ks
    have hat := avs_get hct
    have htm := List.mem_of_getElem? hct
    simp only [all0] at hus
    cases hu : roF d S t with
    | none => rw [hu] at hus; simp at hus
    | some u =>
      rw [hu] at hus
      simp only at hus
      cases hul : all0 (roF d S) l with
      | none => rw [hul] at hus; simp at hus
      | some ul =>
        rw [hul] at hus
        simp only [Option.some.injEq] at hus
        subst hus
        obtain ⟨R, hR, hx⟩ := loop_step hx
        have hlt' := ltI_t hlt
        have hw := wr_succ (i := i) (by omega)
        have hn1 := hnew.1
        have hc1 := hc t u h (goods_mem.1 hf t htm) (hs.mono hnew) hu
        obtain ⟨t0, t1, t2, ht⟩ := av_cells t
        obtain ⟨u0, u1, u2, hu'⟩ := av_cells u
        have hadd := avs_add done u
        have hsz := avs_sizes done
        have hdl2 := avs_len done
        have hby : (done.length + 1) * 48 ≤ 140737488355328 := by omega
        rw [ht] at hat hc1
        rw [hu'] at hc1 hadd
        have hpx : p ≠ h.nx := by omega
        have hpx2 : h.nx ≠ p := by omega
        have h3x : b3 ≠ h.nx := by omega
        have h4x : b4 ≠ h.nx := by omega
        rcases hr with ⟨rfl, e0⟩ | ⟨id, rfl, hg, hid⟩
        · have eL : done = [] := by cases done with | nil => rfl | cons a l => simp [Ty.avs] at e0
          subst eL
          simp only [Ty.avs] at hz hadd
          simp [b19_1, loopOf, Try.f19, loops, cdL_seq, cdL_region, cdL_drawn, cdL_cond, cdL_block, cdL_skip, cdL_label, cdL_exit, cdL_ret, endL, evSeq, evOne, evAct, evOp, opKind, evPure, evRead, evNew, evWrite, evSlice, natOf, optVal, readAt, AV.cells, wantedA, putTm, val, allVals, evBin, evInt, evStr, evAppend, denseFrom, sizesAre, onesIn, evPlan, recheck, AV.beq_refl, H.new, H.put, fillF, fillAt, allOne, AV.one, setArgs, evRes, resOf, ofVal, ofVal0, blt_dec, ble_dec, beq_dec, T.get_set_ite, T.get_e, isShift, ikBeq, ty_0, ty_1, ty_2, ty_3, ty_4, ty_5, ty_6, ty_7, ty_8, ty_9, ty_10, ty_11, ty_12, ty_13, ty_14, ty_15, ty_16, ty_17, ty_18, ty_19, ty_20, ty_21, ty_22, ty_23, ty_24, ty_25, ty_26, ty_27, ty_28, ty_29, ty_30, ty_31, ty_32, ty_33, ty_34, ty_35, ty_36, ty_37, ty_38, ty_39, ty_40, ty_41, ty_42, ty_43, ty_44, ty_45, ty_46, ty_47, ty_48, ty_49, ty_50, ty_51, ty_52, ty_53, ty_54, ty_55, ty_56, ty_57, ty_58, ty_59, ty_60, ty_61, ty_62, ty_63, ty_64, ty_65, ty_66, ty_67, ty_68, ty_69, ty_70, ty_71, ty_72, ty_73, ty_74, ty_75, ty_76, ty_77, ty_78, pl_3_7, pl_3_12, pl_3_14, pl_3_15, pl_3_17, pl_4_12, pl_5_7, pl_6_16, pl_6_21, pl_7_3, pl_7_7, pl_8_5, pl_12_3, pl_13_1, pl_13_11, pl_15_6, pl_16_8, pl_17_4, pl_19_5, pl_19_12, pl_24_5, pl_24_12, pl_26_1, pl_27_2, pl_28_3, pl_30_3, pl_33_2, lp, hty, hpl, g0, g3, g4, g6, g7, hz3, hkl, hlt', hat, hw, hc1, hz, hpx, hpx2] at hx
          rw [hR] at hx
          simp only [List.nil_append] at hadd
          obtain ⟨tm', h', o', q1, q2, q3, q4, q5, q6, q7, q8⟩ := loop19_1 hty hpl (a := a) (n := n) hl hf hs hp0 hb3 hb4 h3p h4p hc l ul [u] (i + 1) (.ch h.nx) hx hul hd' hlt (by simp at hdl ⊢; omega)
            ⟨by simp; omega, fun j hj => by simp only [T.get_set_ite]; rw [if_neg (by omega), if_neg (by omega)]; exact hnew.2 j hj⟩ (by simp [T.get_set_ite, hadd]) (by simp; omega) (by simp [T.get_set_ite, h3p, h3x, hz3]) (by simp; omega) (by simp [T.get_set_ite, h4p, h4x, hz4]) (by simp; omega) (.inr ⟨_, rfl, by simp [T.get_set_ite, hpx2, Ty.avs], by simp⟩) (fun id e => by cases e; omega) (by simp [T.get_set_ite, g0]) (by simp [T.get_set_ite, g3]) (by simp [T.get_set_ite, g4]) (by simp [T.get_set_ite, g6]) (by simp [T.get_set_ite])
          exact ⟨tm', h', o', q1, q2, q3, by simpa using q4, q5, q6, q7, q8⟩
        · have hpi : p ≠ id := by rintro rfl; rw [hz] at hg; cases hg
          have hip : id ≠ p := fun e => hpi e.symm
          have h3i : b3 ≠ id := by rintro rfl; rw [hz3] at hg; cases hg
          have h4i : b4 ≠ id := by rintro rfl; rw [hz4] at hg; cases hg
          have hidh : h0.nx ≤ id := hoo id rfl
          rw [hdl2] at hg
          simp [b19_1, loopOf, Try.f19, loops, cdL_seq, cdL_region, cdL_drawn, cdL_cond, cdL_block, cdL_skip, cdL_label, cdL_exit, cdL_ret, endL, evSeq, evOne, evAct, evOp, opKind, evPure, evRead, evNew, evWrite, evSlice, natOf, optVal, readAt, AV.cells, wantedA, putTm, val, allVals, evBin, evInt, evStr, evAppend, denseFrom, sizesAre, onesIn, evPlan, recheck, AV.beq_refl, H.new, H.put, fillF, fillAt, allOne, AV.one, setArgs, evRes, resOf, ofVal, ofVal0, blt_dec, ble_dec, beq_dec, T.get_set_ite, T.get_e, isShift, ikBeq, ty_0, ty_1, ty_2, ty_3, ty_4, ty_5, ty_6, ty_7, ty_8, ty_9, ty_10, ty_11, ty_12, ty_13, ty_14, ty_15, ty_16, ty_17, ty_18, ty_19, ty_20, ty_21, ty_22, ty_23, ty_24, ty_25, ty_26, ty_27, ty_28, ty_29, ty_30, ty_31, ty_32, ty_33, ty_34, ty_35, ty_36, ty_37, ty_38, ty_39, ty_40, ty_41, ty_42, ty_43, ty_44, ty_45, ty_46, ty_47, ty_48, ty_49, ty_50, ty_51, ty_52, ty_53, ty_54, ty_55, ty_56, ty_57, ty_58, ty_59, ty_60, ty_61, ty_62, ty_63, ty_64, ty_65, ty_66, ty_67, ty_68, ty_69, ty_70, ty_71, ty_72, ty_73, ty_74, ty_75, ty_76, ty_77, ty_78, pl_3_7, pl_3_12, pl_3_14, pl_3_15, pl_3_17, pl_4_12, pl_5_7, pl_6_16, pl_6_21, pl_7_3, pl_7_7, pl_8_5, pl_12_3, pl_13_1, pl_13_11, pl_15_6, pl_16_8, pl_17_4, pl_19_5, pl_19_12, pl_24_5, pl_24_12, pl_26_1, pl_27_2, pl_28_3, pl_30_3, pl_33_2, lp, hty, hpl, g0, g3, g4, g6, g7, hz3, hkl, hlt', hat, hw, hc1, hz, hpx, hpx2, hg, hpi, hip, hsz, hdl2, hby, hadd] at hx
          rw [hR] at hx
          obtain ⟨tm', h', o', q1, q2, q3, q4, q5, q6, q7, q8⟩ := loop19_1 hty hpl (a := a) (n := n) hl hf hs hp0 hb3 hb4 h3p h4p hc l ul (done ++ [u]) (i + 1) (.ch id) hx hul hd' hlt (by simp; omega)
            ⟨by simp; omega, fun j hj => by simp only [T.get_set_ite]; rw [if_neg (by omega), if_neg (by omega)]; exact hnew.2 j hj⟩ (by simp [T.get_set_ite]) (by simp; omega) (by simp [T.get_set_ite, h3p, h3i, hz3]) (by simp; omega) (by simp [T.get_set_ite, h4p, h4i, hz4]) (by simp; omega) (.inr ⟨_, rfl, by simp [T.get_set_ite, hip, avs_len], by simp; omega⟩) hoo (by simp [T.get_set_ite, g0]) (by simp [T.get_set_ite, g3]) (by simp [T.get_set_ite, g4]) (by simp [T.get_set_ite, g6]) (by simp [T.get_set_ite])
          exact ⟨tm', h', o', q1, q2, q3, by simpa using q4, q5, q6, q7, q8⟩
end Go.Proofs.Ytiifjjcoepgobaa.Env
/- The reference's Of as a primitive. -/
set_option autoImplicit false
set_option maxRecDepth 100000
set_option linter.unusedSimpArgs false
set_option linter.unusedVariables false
set_option linter.unusedSectionVars false
namespace Go.Proofs.Ytiifjjcoepgobaa.Env
open Go.Ev

theorem pd19_ok : ∀ d, PrimOk Try.prog 19 (pd19 d) := prim_rec envA_ok (prim_none Try.func19 (by kernel_rfl) (by kernel_rfl) fun a h => by
    cases he : pd19 0 a h with
    | none => rfl
    | some r =>
      obtain ⟨v, k⟩ := r
      obtain ⟨x, t, u, s, o1, o2, S, _, _, _, _, _, _, _, _, hu⟩ := ofRelH_some he
      simp [roF] at hu) fun d hE => prim_of hE (fn := Try.f19) (by kernel_rfl) body19 fun args h v hk hr => by
  obtain ⟨x, t, u, s, o1, o2, S, hx, rfl, rfl, rfl, hgt, hgs, hSl, hs, hu⟩ := ofRelH_some hr
  have hprim : (addPrim envA 19 (pd19 d)).prim 19 = some (pd19 d) := by kernel_rfl
  generalize hEe : addPrim envA 19 (pd19 d) = E at *
  have hty : E.ty = env.ty := by rw [← hEe]; rfl
  have hpl : E.plan = env.plan := by rw [← hEe]; rfl
  refine ⟨rfl, [.ptr (some (s, 0)), t.av], wks_cons.2 ⟨wk_ptr hs.hs, wks1.2 (wk_mono (Nat.zero_le _) hx)⟩, ?_⟩
  have hcall : ∀ t u h, good t → RSt h s o1 o2 S → roF d S t = some u → evL E 19 [.ptr (some (s, 0)), t.av] h = some (u.av, h) := fun t u h h1 h2 h3 => c19d hprim (Ty.av_bare 0 t) h1 hgs hSl h2 h3
  obtain ⟨a, n, ks⟩ := t
  simp only [good] at hgt
  simp only [roF] at hu
  have hs1 := hs.hs
  have hcd : condAt Try.f19 [1, 0, 1] = .tmp 10 := rfl
  have hv : natsBeq a varS = natsBeq a [118, 97, 114] := rfl
  rw [hv] at hu
  unfold bodyL
  rw [hcd]
  cases h1 : natsBeq a [118, 97, 114] with
  | true =>
    rw [h1] at hu
    simp only [cond_true] at hu
    have hN : New hk ⟨(hk.t.set hk.nx (.cells [.str a, .int .i64 n, .sl .no (Ty.avs ks)])).set (hk.nx + 1) (.cells [.str [], .int .i64 0, .sl .full []]), hk.nx + 1 + 1⟩ := ⟨by simp; omega, fun j hj => by simp only [T.get_set_ite]; rw [if_neg (by omega), if_neg (by omega)]⟩
    simp only [codeAt, sub, Try.f19]
    simp [cdL_seq, cdL_region, cdL_drawn, cdL_cond, cdL_block, cdL_skip, cdL_label, cdL_exit, cdL_ret, endL, evSeq, evOne, evAct, evOp, opKind, evPure, evRead, evNew, evWrite, evSlice, natOf, optVal, readAt, AV.cells, wantedA, putTm, val, allVals, evBin, evInt, evStr, evAppend, denseFrom, sizesAre, onesIn, evPlan, recheck, AV.beq_refl, H.new, H.put, fillF, fillAt, allOne, AV.one, setArgs, evRes, resOf, ofVal, ofVal0, blt_dec, ble_dec, beq_dec, T.get_set_ite, T.get_e, isShift, ikBeq, ty_0, ty_1, ty_2, ty_3, ty_4, ty_5, ty_6, ty_7, ty_8, ty_9, ty_10, ty_11, ty_12, ty_13, ty_14, ty_15, ty_16, ty_17, ty_18, ty_19, ty_20, ty_21, ty_22, ty_23, ty_24, ty_25, ty_26, ty_27, ty_28, ty_29, ty_30, ty_31, ty_32, ty_33, ty_34, ty_35, ty_36, ty_37, ty_38, ty_39, ty_40, ty_41, ty_42, ty_43, ty_44, ty_45, ty_46, ty_47, ty_48, ty_49, ty_50, ty_51, ty_52, ty_53, ty_54, ty_55, ty_56, ty_57, ty_58, ty_59, ty_60, ty_61, ty_62, ty_63, ty_64, ty_65, ty_66, ty_67, ty_68, ty_69, ty_70, ty_71, ty_72, ty_73, ty_74, ty_75, ty_76, ty_77, ty_78, pl_3_7, pl_3_12, pl_3_14, pl_3_15, pl_3_17, pl_4_12, pl_5_7, pl_6_16, pl_6_21, pl_7_3, pl_7_7, pl_8_5, pl_12_3, pl_13_1, pl_13_11, pl_15_6, pl_16_8, pl_17_4, pl_19_5, pl_19_12, pl_24_5, pl_24_12, pl_26_1, pl_27_2, pl_28_3, pl_30_3, pl_33_2, hty, hpl, Ty.av, h1, bytesOf]
    generalize hx' : cdL E 19 65 (.loop b19_0) _ _ = x'
    have res := loop19_0 hty hpl (b3 := hk.nx) (b4 := hk.nx + 1) (a := a) (n := n) (ks := ks) (d := d) hSl hgs (hs.mono hN) (fun t u h1 h2 => hcall t u _ h1 (hs.mono hN) h2) (by simp [T.get_set_ite]) (by simp [T.get_set_ite]) S 0 hx' rfl (Nat.zero_le _) (by simp [T.get_set_ite]) (by simp [T.get_set_ite]) (by simp [T.get_set_ite]) (by simp [T.get_set_ite])
    cases hl : look S n with
    | none =>
      rw [hl] at hu res
      simp only [Option.some.injEq] at hu
      subst hu
      obtain ⟨tm', rfl, g3, g4⟩ := res
      simp [cdL_seq, cdL_region, cdL_drawn, cdL_cond, cdL_block, cdL_skip, cdL_label, cdL_exit, cdL_ret, endL, evSeq, evOne, evAct, evOp, opKind, evPure, evRead, evNew, evWrite, evSlice, natOf, optVal, readAt, AV.cells, wantedA, putTm, val, allVals, evBin, evInt, evStr, evAppend, denseFrom, sizesAre, onesIn, evPlan, recheck, AV.beq_refl, H.new, H.put, fillF, fillAt, allOne, AV.one, setArgs, evRes, resOf, ofVal, ofVal0, blt_dec, ble_dec, beq_dec, T.get_set_ite, T.get_e, isShift, ikBeq, ty_0, ty_1, ty_2, ty_3, ty_4, ty_5, ty_6, ty_7, ty_8, ty_9, ty_10, ty_11, ty_12, ty_13, ty_14, ty_15, ty_16, ty_17, ty_18, ty_19, ty_20, ty_21, ty_22, ty_23, ty_24, ty_25, ty_26, ty_27, ty_28, ty_29, ty_30, ty_31, ty_32, ty_33, ty_34, ty_35, ty_36, ty_37, ty_38, ty_39, ty_40, ty_41, ty_42, ty_43, ty_44, ty_45, ty_46, ty_47, ty_48, ty_49, ty_50, ty_51, ty_52, ty_53, ty_54, ty_55, ty_56, ty_57, ty_58, ty_59, ty_60, ty_61, ty_62, ty_63, ty_64, ty_65, ty_66, ty_67, ty_68, ty_69, ty_70, ty_71, ty_72, ty_73, ty_74, ty_75, ty_76, ty_77, ty_78, pl_3_7, pl_3_12, pl_3_14, pl_3_15, pl_3_17, pl_4_12, pl_5_7, pl_6_16, pl_6_21, pl_7_3, pl_7_7, pl_8_5, pl_12_3, pl_13_1, pl_13_11, pl_15_6, pl_16_8, pl_17_4, pl_19_5, pl_19_12, pl_24_5, pl_24_12, pl_26_1, pl_27_2, pl_28_3, pl_30_3, pl_33_2, hty, hpl, g3, g4]
      refine ⟨_, _, ⟨rfl, rfl⟩, New.keep ⟨by simp; omega, fun j hj => ?_⟩, ?_⟩
      · simp only [T.get_set_ite]
        rw [if_neg (by omega), if_neg (by omega), if_neg (by omega)]
      · have := Ty.av_bare hk.nx (.mk a n ks)
        simpa [Ty.av] using this
    | some w =>
      rw [hl] at hu res
      obtain ⟨tm', rfl, g4⟩ := res u hu
      obtain ⟨u0, u1, u2, hua⟩ := av_cells u
      have hb := Ty.av_bare hk.nx u
      rw [hua] at hb ⊢
      simp [cdL_seq, cdL_region, cdL_drawn, cdL_cond, cdL_block, cdL_skip, cdL_label, cdL_exit, cdL_ret, endL, evSeq, evOne, evAct, evOp, opKind, evPure, evRead, evNew, evWrite, evSlice, natOf, optVal, readAt, AV.cells, wantedA, putTm, val, allVals, evBin, evInt, evStr, evAppend, denseFrom, sizesAre, onesIn, evPlan, recheck, AV.beq_refl, H.new, H.put, fillF, fillAt, allOne, AV.one, setArgs, evRes, resOf, ofVal, ofVal0, blt_dec, ble_dec, beq_dec, T.get_set_ite, T.get_e, isShift, ikBeq, ty_0, ty_1, ty_2, ty_3, ty_4, ty_5, ty_6, ty_7, ty_8, ty_9, ty_10, ty_11, ty_12, ty_13, ty_14, ty_15, ty_16, ty_17, ty_18, ty_19, ty_20, ty_21, ty_22, ty_23, ty_24, ty_25, ty_26, ty_27, ty_28, ty_29, ty_30, ty_31, ty_32, ty_33, ty_34, ty_35, ty_36, ty_37, ty_38, ty_39, ty_40, ty_41, ty_42, ty_43, ty_44, ty_45, ty_46, ty_47, ty_48, ty_49, ty_50, ty_51, ty_52, ty_53, ty_54, ty_55, ty_56, ty_57, ty_58, ty_59, ty_60, ty_61, ty_62, ty_63, ty_64, ty_65, ty_66, ty_67, ty_68, ty_69, ty_70, ty_71, ty_72, ty_73, ty_74, ty_75, ty_76, ty_77, ty_78, pl_3_7, pl_3_12, pl_3_14, pl_3_15, pl_3_17, pl_4_12, pl_5_7, pl_6_16, pl_6_21, pl_7_3, pl_7_7, pl_8_5, pl_12_3, pl_13_1, pl_13_11, pl_15_6, pl_16_8, pl_17_4, pl_19_5, pl_19_12, pl_24_5, pl_24_12, pl_26_1, pl_27_2, pl_28_3, pl_30_3, pl_33_2, hty, hpl, g4]
      refine ⟨_, _, ⟨rfl, rfl⟩, New.keep ⟨by simp; omega, fun j hj => ?_⟩, hb⟩
      simp only [T.get_set_ite]
      rw [if_neg (by omega), if_neg (by omega), if_neg (by omega)]
  | false =>
    rw [h1] at hu
    simp only [cond_false] at hu
    cases hus : all0 (roF d S) ks with
    | none => rw [hus] at hu; simp at hu
    | some us =>
      rw [hus] at hu
      simp only [Option.some.injEq] at hu
      subst hu
      simp only [codeAt, sub, Try.f19]
      simp [cdL_seq, cdL_region, cdL_drawn, cdL_cond, cdL_block, cdL_skip, cdL_label, cdL_exit, cdL_ret, endL, evSeq, evOne, evAct, evOp, opKind, evPure, evRead, evNew, evWrite, evSlice, natOf, optVal, readAt, AV.cells, wantedA, putTm, val, allVals, evBin, evInt, evStr, evAppend, denseFrom, sizesAre, onesIn, evPlan, recheck, AV.beq_refl, H.new, H.put, fillF, fillAt, allOne, AV.one, setArgs, evRes, resOf, ofVal, ofVal0, blt_dec, ble_dec, beq_dec, T.get_set_ite, T.get_e, isShift, ikBeq, ty_0, ty_1, ty_2, ty_3, ty_4, ty_5, ty_6, ty_7, ty_8, ty_9, ty_10, ty_11, ty_12, ty_13, ty_14, ty_15, ty_16, ty_17, ty_18, ty_19, ty_20, ty_21, ty_22, ty_23, ty_24, ty_25, ty_26, ty_27, ty_28, ty_29, ty_30, ty_31, ty_32, ty_33, ty_34, ty_35, ty_36, ty_37, ty_38, ty_39, ty_40, ty_41, ty_42, ty_43, ty_44, ty_45, ty_46, ty_47, ty_48, ty_49, ty_50, ty_51, ty_52, ty_53, ty_54, ty_55, ty_56, ty_57, ty_58, ty_59, ty_60, ty_61, ty_62, ty_63, ty_64, ty_65, ty_66, ty_67, ty_68, ty_69, ty_70, ty_71, ty_72, ty_73, ty_74, ty_75, ty_76, ty_77, ty_78, pl_3_7, pl_3_12, pl_3_14, pl_3_15, pl_3_17, pl_4_12, pl_5_7, pl_6_16, pl_6_21, pl_7_3, pl_7_7, pl_8_5, pl_12_3, pl_13_1, pl_13_11, pl_15_6, pl_16_8, pl_17_4, pl_19_5, pl_19_12, pl_24_5, pl_24_12, pl_26_1, pl_27_2, pl_28_3, pl_30_3, pl_33_2, hty, hpl, Ty.av, h1, bytesOf]
      have hne : hk.nx ≠ hk.nx + 1 + 1 := by omega
      generalize hx' : cdL E 19 65 (.loop b19_1) _ _ = x'
      obtain ⟨tm', h', o', rfl, q1, q2, q3, q4, q5, q6, q7⟩ := loop19_1 hty hpl (p := hk.nx + 1 + 1) (b3 := hk.nx) (b4 := hk.nx + 1) (a := a) (n := n) (ks := ks) hgt.1 hgt.2 hs (by omega) (by omega) (by omega) (by omega) (by omega) hcall ks us [] 0 .full hx' hus rfl (Nat.zero_le _) rfl ⟨by simp; omega, fun j hj => by simp only [T.get_set_ite]; repeat rw [if_neg (by omega)]⟩ (by simp [T.get_set_ite, Ty.avs]) (by simp) (by simp [T.get_set_ite, hne]) (by simp; omega) (by simp [T.get_set_ite]) (by simp) (.inl ⟨rfl, rfl⟩) (fun id e => by cases e) (by simp [T.get_set_ite]) (by simp [T.get_set_ite]) (by simp [T.get_set_ite]) (by simp [T.get_set_ite]) (by simp [T.get_set_ite])
      simp [cdL_seq, cdL_region, cdL_drawn, cdL_cond, cdL_block, cdL_skip, cdL_label, cdL_exit, cdL_ret, endL, evSeq, evOne, evAct, evOp, opKind, evPure, evRead, evNew, evWrite, evSlice, natOf, optVal, readAt, AV.cells, wantedA, putTm, val, allVals, evBin, evInt, evStr, evAppend, denseFrom, sizesAre, onesIn, evPlan, recheck, AV.beq_refl, H.new, H.put, fillF, fillAt, allOne, AV.one, setArgs, evRes, resOf, ofVal, ofVal0, blt_dec, ble_dec, beq_dec, T.get_set_ite, T.get_e, isShift, ikBeq, ty_0, ty_1, ty_2, ty_3, ty_4, ty_5, ty_6, ty_7, ty_8, ty_9, ty_10, ty_11, ty_12, ty_13, ty_14, ty_15, ty_16, ty_17, ty_18, ty_19, ty_20, ty_21, ty_22, ty_23, ty_24, ty_25, ty_26, ty_27, ty_28, ty_29, ty_30, ty_31, ty_32, ty_33, ty_34, ty_35, ty_36, ty_37, ty_38, ty_39, ty_40, ty_41, ty_42, ty_43, ty_44, ty_45, ty_46, ty_47, ty_48, ty_49, ty_50, ty_51, ty_52, ty_53, ty_54, ty_55, ty_56, ty_57, ty_58, ty_59, ty_60, ty_61, ty_62, ty_63, ty_64, ty_65, ty_66, ty_67, ty_68, ty_69, ty_70, ty_71, ty_72, ty_73, ty_74, ty_75, ty_76, ty_77, ty_78, pl_3_7, pl_3_12, pl_3_14, pl_3_15, pl_3_17, pl_4_12, pl_5_7, pl_6_16, pl_6_21, pl_7_3, pl_7_7, pl_8_5, pl_12_3, pl_13_1, pl_13_11, pl_15_6, pl_16_8, pl_17_4, pl_19_5, pl_19_12, pl_24_5, pl_24_12, pl_26_1, pl_27_2, pl_28_3, pl_30_3, pl_33_2, hty, hpl, q1, q2, q3, q5]
      refine ⟨_, _, ⟨rfl, rfl⟩, New.keep ⟨by simpa using q4.1, fun j hj => ?_⟩, ?_⟩
      · simp only [T.get_set_ite]
        rw [if_neg (by omega)]
        exact q4.2 j hj
      · have := Ty.av_bare hk.nx (.mk a n us)
        simp only [Ty.av, wk_agg, wks_cons, wk_sl] at this ⊢
        exact ⟨this.1, this.2.1, ⟨own_no, this.2.2.1.2⟩, this.2.2.2⟩
noncomputable abbrev p19 := ofRelH fun args h v hk => ∃ d, R19 d args h v hk
theorem p19_ok : PrimOk Try.prog 19 p19 := prim_union pd19_ok fun a h r hr => by
  obtain ⟨v, k⟩ := r
  obtain ⟨d, hd⟩ := ofRelH_some hr
  exact ⟨d, ofRelH_of hd fun u k' hu => R19_uniq hu hd⟩
theorem c19 {E : Env} (hp : E.prim 19 = some p19) {s : Nat} {o1 o2 : Own} {S : Sd} {x : AV} {t u : Ty} {h : H} (hx : x.wk 0 t.av) (hf : good t) (hg : goodS S) (hl : S.length ≤ 1000000) (hs : RSt h s o1 o2 S) (hu : Ro S t u) : evL E 19 [.ptr (some (s, 0)), x] h = some (u.av, h) := by
  rw [evL_prim E hp]
  obtain ⟨d, hu⟩ := hu
  have hr : R19 d [.ptr (some (s, 0)), x] h u.av h := ⟨x, t, u, s, o1, o2, S, hx, rfl, rfl, rfl, hf, hg, hl, hs, hu⟩
  exact ofRelH_of ⟨d, hr⟩ fun v k ⟨d', hu'⟩ => R19_uniq hu' hr
end Go.Proofs.Ytiifjjcoepgobaa.Env
