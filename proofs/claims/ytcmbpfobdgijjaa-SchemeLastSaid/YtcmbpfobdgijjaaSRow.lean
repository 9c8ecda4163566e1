/- What the laws on schemes start from: the functions as primitives; what an env that may be is; rows put together. -/
import Derived.Test.YtcmbpfobdgijjaaSW
import Derived.Test.YtcmbpfobdgijjaaSQ
import Derived.Test.YtcmbpfobdgijjaaEvU
import Derived.Test.YtcmbpfobdgijjaaRows
set_option autoImplicit false
set_option maxRecDepth 100000
set_option linter.unusedSimpArgs false
set_option linter.unusedVariables false
set_option linter.unusedSectionVars false
namespace Go.Proofs.Ytcmbpfobdgijjaa.Env
open Go.Ev

noncomputable abbrev E9 : Env := addPrim E17 17 pRFree
theorem E9_ok : EnvOk Try.prog E9 := addPrim_ok E17_ok pTFree_ok
theorem pTGen_ok : PrimOk Try.prog 9 pRGen := prim2_ok E9_ok (fn := Try.f9) (by kernel_rfl) bodyG9 (by kernel_rfl) fun bs t hq => by
  exact gen9_run (E := E9) rfl rfl (by kernel_rfl) (by kernel_rfl) (by kernel_rfl) hq hq.2.1.1
noncomputable def envZ : Env := addPrim (addPrim (addPrim (addPrim (addPrim (addPrim (addPrim (addPrim (addPrim (addPrim (addPrim env 7 p9) 8 p10) 9 pRGen) 10 pRFree) 11 p22) 13 pRGen) 14 pLook) 15 pLook) 16 pInts) 17 pRFree) 18 p15
theorem envZ_ok : EnvOk Try.prog envZ := addPrim_ok (addPrim_ok (addPrim_ok (addPrim_ok (addPrim_ok (addPrim_ok (addPrim_ok (addPrim_ok (addPrim_ok (addPrim_ok (addPrim_ok env_ok p9_ok) p10_ok) pTGen_ok) pRFree_ok) p22_ok) pRGen_ok) pLook_ok) pRLook_ok) pInts_ok) pTFree_ok) p15_ok

theorem isF_size {t : Ty} (h : isF t = true) : size t ≤ 2000 := by
  simp only [isF, Bool.and_eq_true, Bool.not_eq_true', ltI_eq] at h
  have h1 : szF t 2001 ≤ 2000 := by simpa using h.1
  have := szF_size t 2001 (by omega)
  omega
theorem mayG_spec : ∀ (k : Nat) (l : List Bd) (n : Int), mayG k l n = true → l.length ≤ k → ∀ b ∈ l, b.vars.length ≤ 20 ∧ isF b.ty = true
  | _, [], _, _, _ => fun b hb => by cases hb
  | 0, b :: l, _, _, hl => by simp at hl
  | k + 1, b :: l, n, h, hl => by
    simp only [mayG, Bool.and_eq_true, Bool.not_eq_true', ltI_eq] at h
    have ih := mayG_spec k l _ h.2.2.2 (by simpa using hl)
    intro c hc
    rcases List.mem_cons.1 hc with rfl | hc
    · exact ⟨by have := h.2.1; simp at this; omega, h.2.2.1⟩
    · exact ih c hc
theorem may_spec {bs : List Bd} (h : mayF bs = true) : bs.length < 20 ∧ ∀ b ∈ bs, b.vars.length ≤ 20 ∧ isF b.ty = true := by
  simp only [mayF, Bool.and_eq_true] at h
  have hl : bs.length < 20 := by have := h.2; rw [ltI_eq] at this; simp at this; omega
  exact ⟨hl, mayG_spec 20 bs 0 h.1 (by omega)⟩
theorem tsz_le : ∀ (l : List Bd), (∀ b ∈ l, size b.ty ≤ 2000) → tsz l ≤ l.length * 2000
  | [], _ => by simp [tsz]
  | b :: l, h => by
    have h1 := h b (List.mem_cons_self ..)
    have h2 := tsz_le l fun c hc => h c (List.mem_cons_of_mem _ hc)
    simp only [tsz, List.length_cons]
    omega
theorem qEnv_of {bs : List Bd} (hl : bs.length ≤ 30) (hf : ∀ b ∈ bs, b.fit) (hi : ∀ b ∈ bs, isF b.ty = true) : qEnv bs := by
  have h1 := tsz_le bs fun b hb => isF_size (hi b hb)
  exact ⟨by omega, fun b hb => ⟨hf b hb, by have := isF_size (hi b hb); omega⟩, by omega⟩
theorem freeR_len {bs : List Bd} : (freeR bs []).length ≤ tsz bs := by
  rw [← free_eq]
  have h1 := Lib.compact_length_le (sortI (freeS bs))
  have h2 : (sortI (freeS bs)).length = (freeS bs).length := List.length_mergeSort _
  have h3 := freeS_len bs
  omega
theorem qGen_of {bs : List Bd} {t : Ty} (hl : bs.length ≤ 30) (hf : ∀ b ∈ bs, b.fit) (hi : ∀ b ∈ bs, isF b.ty = true) (ht : fit t) (hit : isF t = true) : qGen bs t := by
  have h1 := tsz_le bs fun b hb => isF_size (hi b hb)
  have h2 := freeR_len (bs := bs)
  exact ⟨qEnv_of hl hf hi, ⟨ht, by have := isF_size hit; omega⟩, by omega⟩
theorem lookK_cases (bs : List Bd) (name : List Nat) : ∀ k, lookK bs name k = ⟨⟨[], .mk [] 0 []⟩, false⟩ ∨ ∃ b ∈ bs, lookK bs name k = ⟨⟨b.vars, b.ty⟩, true⟩
  | 0 => .inl rfl
  | k + 1 => by
    rw [lookK]
    cases hc : bs[k]? with
    | none => exact lookK_cases bs name k
    | some b =>
      simp only
      cases natsBeq b.name name with
      | true => exact .inr ⟨b, List.mem_of_getElem? hc, rfl⟩
      | false => exact lookK_cases bs name k
theorem lookF_spec {bs : List Bd} (hf : ∀ b ∈ bs, b.fit) (name : Str) : (lookF bs name).sc.vars.length ≤ 9223372036854775807 ∧ fit (lookF bs name).sc.ty := by
  rcases lookK_cases bs name.s bs.length with h | ⟨b, hb, h⟩
  · show (lookK bs name.s bs.length).sc.vars.length ≤ _ ∧ _
    rw [show lookF bs name = lookK bs name.s bs.length from rfl, h]
    exact ⟨by simp, by simp [fit, fits]⟩
  · rw [show lookF bs name = lookK bs name.s bs.length from rfl, h]
    exact hf b hb
theorem app_any {e sz byt : Nat} {h : H} {w : Go.Ev.Own} {xs ys : List AV} (hsz : 0 < sz) (hb : 0 < byt) (sx : sizesAre sz xs = true) (sy : sizesAre sz ys = true) (oy : onesIn ys = true) (hl : (xs.length + ys.length) * byt ≤ 140737488355328) (r : RowE e sz h w xs) :
    ∃ w' h', evAppend e sz byt h (.sl w xs) ys = some (.sl w' (xs ++ ys), h') ∧ RowE e sz h' w' (xs ++ ys) ∧ h.nx ≤ h'.nx ∧ ∀ j, j < h.nx → w ≠ .ch j → h'.t.get j = h.t.get j := by
  have hc : (Nat.blt 0 sz && (Nat.blt 0 byt && (sizesAre sz ys && (onesIn ys && (sizesAre sz xs && Nat.ble ((xs.length + ys.length) * byt) 140737488355328))))) = true := by
    rw [sx, sy, oy, blt_nat.2 hsz, blt_nat.2 hb]
    have : Nat.ble ((xs.length + ys.length) * byt) 140737488355328 = true := by rw [Nat.ble_eq]; exact hl
    rw [this]; rfl
  unfold evAppend
  simp only [hc, cond_true]
  cases ys with
  | nil => exact ⟨w, h, by simp, by simpa using r, Nat.le_refl _, fun _ _ _ => rfl⟩
  | cons y l =>
    rcases r with ⟨rfl, rfl⟩ | ⟨id, rfl, hg, hi⟩
    · exact ⟨.ch h.nx, _, rfl, .inr ⟨_, rfl, by simp [H.new, T.get_set_ite], by simp [H.new]⟩, by simp [H.new], fun j hj _ => by simp only [H.new, T.get_set_ite]; rw [if_neg (by omega)]⟩
    · have hbq : (Nat.beq xs.length xs.length && (Nat.beq e e && Nat.beq sz sz)) = true := by simp
      refine ⟨.ch id, h.put id (.chain (xs.length + (y :: l).length) e sz), ?_, .inr ⟨_, rfl, by simp [H.put, T.get_set_ite], by simpa [H.put] using hi⟩, by simp [H.put], fun j hj hne => by
        have : j ≠ id := fun e => hne (by rw [e])
        simp only [H.put, T.get_set_ite]; rw [if_neg this]⟩
      simp only [hg, hbq, cond_true]
theorem bd_cells (b : Bd) : b.av.cells.length = 5 ∧ allOne b.av.cells = true := by
  obtain ⟨t0, t1, t2, ht⟩ := av_cells b.ty
  simp only [Bd.av, AV.cells]
  rw [ht]
  exact ⟨rfl, rfl⟩
theorem bds_sizes : ∀ l : List Bd, sizesAre 5 (bds l) = true
  | [] => rfl
  | b :: l => by
    have := bds_sizes l
    simp only [bds, List.map_cons, sizesAre, Bool.and_eq_true] at this ⊢
    exact ⟨by rw [(bd_cells b).1]; rfl, this⟩
theorem bds_ones : ∀ l : List Bd, onesIn (bds l) = true
  | [] => rfl
  | b :: l => by
    have := bds_ones l
    simp only [bds, List.map_cons, onesIn, Bool.and_eq_true] at this ⊢
    exact ⟨(bd_cells b).2, this⟩
end Go.Proofs.Ytcmbpfobdgijjaa.Env
/- SchemeLast. -/
set_option autoImplicit false
set_option maxRecDepth 100000
set_option maxHeartbeats 1000000
set_option linter.unusedSimpArgs false
set_option linter.unusedVariables false
set_option linter.unusedSectionVars false
namespace Go.Proofs.Ytcmbpfobdgijjaa.Env
open Go.Ev

theorem knownZ (h : H) : ∃ h', evL envZ 12 [] h = some (.bool true, h') := known_run (E := envZ) rfl rfl (by kernel_rfl) (by kernel_rfl) (by kernel_rfl) (by kernel_rfl) (by kernel_rfl) (by kernel_rfl) (by kernel_rfl) h
theorem mayZ {o : Go.Ev.Own} {ps : List Bd} (hl : ps.length ≤ 9223372036854775807) (hf : ∀ p ∈ ps, p.fit) (h : H) : evL envZ 6 [.sl o (bds ps)] h = some (.bool (mayF ps), h) :=
  may_run (E := envZ) rfl rfl (by kernel_rfl) (by kernel_rfl) (by kernel_rfl) (by kernel_rfl) hl hf h
theorem law5 (bs : List Bd) (hl : bs.length ≤ 9223372036854775807) (hf : ∀ b ∈ bs, b.fit) (b : Bd) (hb : b.fit) : ∃ h', evL envZ 5 [.sl .no (bds bs), b.av] ⟨.e, 0⟩ = some (.bool true, h') := by
  have body5 : Try.f5.body = some (codeAt Try.f5 []) := rfl
  have hty : envZ.ty = env.ty := rfl
  have hpl : envZ.plan = env.plan := rfl
  have k6 := fun h => mayZ (o := .no) hl hf h
  have k6b := fun h => mayZ (o := .full) (ps := [b]) (by simp) (by simpa using hb) h
  obtain ⟨t0, t1, t2, ht⟩ := av_cells b.ty
  have hbv : b.av = .agg [.str b.name, .sl .no (ints b.vars), .str t0, .int .i64 t1, .sl .no t2] := by simp only [Bd.av]; rw [ht]; rfl
  rw [show bds [b] = [b.av] from rfl] at k6b
  rw [hbv] at k6b ⊢
  rw [evL_fn envZ (by kernel_rfl) (by kernel_rfl) body5 _ _ rfl]
  cases h1 : mayF bs with
  | false =>
    simp only [codeAt, sub, Try.f5]
    simp [cdL_seq, cdL_region, cdL_drawn, cdL_cond, cdL_block, cdL_skip, cdL_label, cdL_exit, cdL_ret, endL, evSeq, evOne, evAct, evOp, opKind, evPure, evRead, evNew, evWrite, evSlice, natOf, optVal, readAt, AV.cells, wantedA, putTm, val, allVals, evBin, evInt, evStr, evAppend, denseFrom, sizesAre, onesIn, evPlan, recheck, AV.beq_refl, H.new, H.put, fillF, fillAt, allOne, AV.one, setArgs, evRes, resOf, ofVal, ofVal0, blt_dec, ble_dec, beq_dec, T.get_set_ite, T.get_e, isShift, ikBeq, ty_0, ty_1, ty_2, ty_3, ty_4, ty_5, ty_6, ty_7, ty_8, ty_9, ty_10, ty_11, ty_12, ty_13, ty_14, ty_15, ty_16, ty_17, ty_18, ty_19, ty_20, ty_21, ty_22, ty_23, ty_24, ty_25, ty_26, ty_27, ty_28, ty_29, ty_30, ty_31, ty_32, ty_33, ty_34, ty_35, ty_36, ty_37, ty_38, ty_39, ty_40, ty_41, ty_42, ty_43, ty_44, ty_45, ty_46, ty_47, ty_48, ty_49, ty_50, ty_51, ty_52, ty_53, ty_54, ty_55, ty_56, ty_57, ty_58, ty_59, ty_60, ty_61, ty_62, ty_63, ty_64, ty_65, ty_66, ty_67, ty_68, ty_69, ty_70, ty_71, ty_72, ty_73, ty_74, ty_75, ty_76, ty_77, ty_78, ty_79, ty_80, ty_81, ty_82, ty_83, ty_84, ty_85, ty_86, ty_87, ty_88, ty_89, ty_90, ty_91, ty_92, ty_93, ty_94, ty_95, ty_96, ty_97, ty_98, ty_99, pl_3_10, pl_4_3, pl_5_3, pl_10_9, pl_10_11, pl_10_13, pl_13_1, pl_13_7, pl_16_6, pl_18_6, pl_19_1, pl_27_6, pl_27_11, pl_33_17, pl_35_4, pl_35_6, pl_36_10, pl_37_10, pl_39_3, pl_40_5, pl_40_11, pl_40_16, pl_40_17, pl_40_22, pl_40_23, pl_42_1, pl_42_3, pl_42_5, pl_42_8, pl_43_1, pl_43_3, pl_43_5, pl_43_8, pl_43_10, pl_43_13, pl_43_15, pl_43_18, pl_43_21, pl_46_3, pl_46_5, pl_46_6, pl_48_1, pl_48_2, pl_48_3, pl_52_1, hty, hpl, k6, k6b, h1, -evAppend]
  | true =>
    cases h2 : mayF [b] with
    | false =>
      simp only [codeAt, sub, Try.f5]
      simp [cdL_seq, cdL_region, cdL_drawn, cdL_cond, cdL_block, cdL_skip, cdL_label, cdL_exit, cdL_ret, endL, evSeq, evOne, evAct, evOp, opKind, evPure, evRead, evNew, evWrite, evSlice, natOf, optVal, readAt, AV.cells, wantedA, putTm, val, allVals, evBin, evInt, evStr, evAppend, denseFrom, sizesAre, onesIn, evPlan, recheck, AV.beq_refl, H.new, H.put, fillF, fillAt, allOne, AV.one, setArgs, evRes, resOf, ofVal, ofVal0, blt_dec, ble_dec, beq_dec, T.get_set_ite, T.get_e, isShift, ikBeq, ty_0, ty_1, ty_2, ty_3, ty_4, ty_5, ty_6, ty_7, ty_8, ty_9, ty_10, ty_11, ty_12, ty_13, ty_14, ty_15, ty_16, ty_17, ty_18, ty_19, ty_20, ty_21, ty_22, ty_23, ty_24, ty_25, ty_26, ty_27, ty_28, ty_29, ty_30, ty_31, ty_32, ty_33, ty_34, ty_35, ty_36, ty_37, ty_38, ty_39, ty_40, ty_41, ty_42, ty_43, ty_44, ty_45, ty_46, ty_47, ty_48, ty_49, ty_50, ty_51, ty_52, ty_53, ty_54, ty_55, ty_56, ty_57, ty_58, ty_59, ty_60, ty_61, ty_62, ty_63, ty_64, ty_65, ty_66, ty_67, ty_68, ty_69, ty_70, ty_71, ty_72, ty_73, ty_74, ty_75, ty_76, ty_77, ty_78, ty_79, ty_80, ty_81, ty_82, ty_83, ty_84, ty_85, ty_86, ty_87, ty_88, ty_89, ty_90, ty_91, ty_92, ty_93, ty_94, ty_95, ty_96, ty_97, ty_98, ty_99, pl_3_10, pl_4_3, pl_5_3, pl_10_9, pl_10_11, pl_10_13, pl_13_1, pl_13_7, pl_16_6, pl_18_6, pl_19_1, pl_27_6, pl_27_11, pl_33_17, pl_35_4, pl_35_6, pl_36_10, pl_37_10, pl_39_3, pl_40_5, pl_40_11, pl_40_16, pl_40_17, pl_40_22, pl_40_23, pl_42_1, pl_42_3, pl_42_5, pl_42_8, pl_43_1, pl_43_3, pl_43_5, pl_43_8, pl_43_10, pl_43_13, pl_43_15, pl_43_18, pl_43_21, pl_46_3, pl_46_5, pl_46_6, pl_48_1, pl_48_2, pl_48_3, pl_52_1, hty, hpl, k6, k6b, h1, h2, -evAppend]
    | true =>
      obtain ⟨hl1, hm1⟩ := may_spec h1
      obtain ⟨hl2, hm2⟩ := may_spec h2
      have hob : onesIn [b.av] = true := bds_ones [b]
      have hsb : sizesAre 5 [b.av] = true := bds_sizes [b]
      obtain ⟨w1, ha, e1, r1, n1, f1⟩ := app_any (e := 36) (sz := 5) (byt := 88) (h := ⟨(T.e.set 0 (Ev.Obj.cells [.str b.name, .sl .no (ints b.vars), .str t0, .int .i64 t1, .sl .no t2])).set 1 (.cells [.sl .full [], .str [], .int .i64 0, .sl .full []]), 2⟩) (w := .full) (xs := []) (ys := bds bs) (by omega) (by omega) rfl (bds_sizes bs) (bds_ones bs) (by rw [bds_len]; simp; omega) (.inl ⟨rfl, rfl⟩)
      rw [List.nil_append] at e1 r1
      have z0 : ha.t.get 0 = some (.cells [.str b.name, .sl .no (ints b.vars), .str t0, .int .i64 t1, .sl .no t2]) := by rw [f1 0 (by simp) (by simp)]; simp [T.get_set_ite]
      have z1 : ha.t.get 1 = some (.cells [.sl .full [], .str [], .int .i64 0, .sl .full []]) := by rw [f1 1 (by simp) (by simp)]; simp [T.get_set_ite]
      obtain ⟨w2, hb2, e2, r2, n2, f2⟩ := app_any (e := 36) (sz := 5) (byt := 88) (h := ha) (w := w1) (xs := bds bs) (ys := [b.av]) (by omega) (by omega) (bds_sizes bs) hsb hob (by rw [bds_len]; simp; omega) r1
      have hne : ∀ {q : Nat} {cs : List AV}, ha.t.get q = some (.cells cs) → w1 ≠ .ch q := fun hq => by
        rcases r1 with ⟨rfl, _⟩ | ⟨id, rfl, hg, _⟩
        · simp
        · rintro ⟨⟩; rw [hq] at hg; cases hg
      simp only at n1
      have y0 : hb2.t.get 0 = some (.cells [.str b.name, .sl .no (ints b.vars), .str t0, .int .i64 t1, .sl .no t2]) := by rw [f2 0 (by omega) (hne z0)]; exact z0
      have y1 : hb2.t.get 1 = some (.cells [.sl .full [], .str [], .int .i64 0, .sl .full []]) := by rw [f2 1 (by omega) (hne z1)]; exact z1
      have eb : bds bs ++ [b.av] = bds (bs ++ [b]) := by simp [bds]
      rw [eb] at e2
      have eF : lookF (bs ++ [b]) ⟨b.name⟩ = ⟨⟨b.vars, b.ty⟩, true⟩ := by
        show lookK (bs ++ [b]) b.name (bs ++ [b]).length = _
        rw [List.length_append, show bs.length + [b].length = bs.length + 1 from rfl, lookK, List.getElem?_append_right (Nat.le_refl _), Nat.sub_self]
        simp [natsBeq_iff.2 (rfl : b.name = b.name)]
      have k14 := fun h => prim2_call (E := envZ) (f := 14) (a := bs ++ [b]) (b := (⟨b.name⟩ : Str)) (F := lookF) (q := qLook) (by kernel_rfl) (x := .sl w2 (bds (bs ++ [b]))) (y := .str b.name)
        (wk_sl.2 ⟨own_no, (wk_sl.1 (Enc.bare 0 (bs ++ [b]))).2⟩) (by simp [AV.wk, Enc.enc]) (by simp [qLook]; omega) h
      rw [eF, show (Enc.enc (⟨⟨b.vars, b.ty⟩, true⟩ : Lk) : AV) = .tup [.agg [.sl .no (ints b.vars), .str t0, .int .i64 t1, .sl .no t2], .bool true] from by show Lk.av _ = _; simp only [Lk.av, Sc.av, scAV]; rw [ht]; rfl] at k14
      have k18 := fun h => prim2_call (E := envZ) (f := 18) (a := b.ty) (b := b.ty) (F := sameF) (q := fun a b => fit a ∧ fit b) (by kernel_rfl) (Enc.bare 0 b.ty) (Enc.bare 0 b.ty) ⟨hb.2, hb.2⟩ h
      rw [sameF_iff.2 rfl, show (Enc.enc b.ty : AV) = .agg [.str t0, .int .i64 t1, .sl .no t2] from ht, show (Enc.enc true : AV) = .bool true from rfl] at k18
      have k16 := fun h => prim2_call (E := envZ) (f := 16) (a := b.vars) (b := b.vars) (F := sameI) (q := fun a _ => a.length ≤ 9223372036854775807) (by kernel_rfl) (Enc.bare 0 b.vars) (Enc.bare 0 b.vars) hb.1 h
      rw [sameI_self, show (Enc.enc b.vars : AV) = .sl .no (ints b.vars) from rfl, show (Enc.enc true : AV) = .bool true from rfl] at k16
      obtain ⟨hz, k12⟩ := knownZ (hb2.put 1 (.cells [.sl .no (ints b.vars), .str t0, .int .i64 t1, .sl .no t2]))
      rw [hbv] at e2
      simp only [H.put] at k12
      simp only [codeAt, sub, Try.f5]
      simp [cdL_seq, cdL_region, cdL_drawn, cdL_cond, cdL_block, cdL_skip, cdL_label, cdL_exit, cdL_ret, endL, evSeq, evOne, evAct, evOp, opKind, evPure, evRead, evNew, evWrite, evSlice, natOf, optVal, readAt, AV.cells, wantedA, putTm, val, allVals, evBin, evInt, evStr, evAppend, denseFrom, sizesAre, onesIn, evPlan, recheck, AV.beq_refl, H.new, H.put, fillF, fillAt, allOne, AV.one, setArgs, evRes, resOf, ofVal, ofVal0, blt_dec, ble_dec, beq_dec, T.get_set_ite, T.get_e, isShift, ikBeq, ty_0, ty_1, ty_2, ty_3, ty_4, ty_5, ty_6, ty_7, ty_8, ty_9, ty_10, ty_11, ty_12, ty_13, ty_14, ty_15, ty_16, ty_17, ty_18, ty_19, ty_20, ty_21, ty_22, ty_23, ty_24, ty_25, ty_26, ty_27, ty_28, ty_29, ty_30, ty_31, ty_32, ty_33, ty_34, ty_35, ty_36, ty_37, ty_38, ty_39, ty_40, ty_41, ty_42, ty_43, ty_44, ty_45, ty_46, ty_47, ty_48, ty_49, ty_50, ty_51, ty_52, ty_53, ty_54, ty_55, ty_56, ty_57, ty_58, ty_59, ty_60, ty_61, ty_62, ty_63, ty_64, ty_65, ty_66, ty_67, ty_68, ty_69, ty_70, ty_71, ty_72, ty_73, ty_74, ty_75, ty_76, ty_77, ty_78, ty_79, ty_80, ty_81, ty_82, ty_83, ty_84, ty_85, ty_86, ty_87, ty_88, ty_89, ty_90, ty_91, ty_92, ty_93, ty_94, ty_95, ty_96, ty_97, ty_98, ty_99, pl_3_10, pl_4_3, pl_5_3, pl_10_9, pl_10_11, pl_10_13, pl_13_1, pl_13_7, pl_16_6, pl_18_6, pl_19_1, pl_27_6, pl_27_11, pl_33_17, pl_35_4, pl_35_6, pl_36_10, pl_37_10, pl_39_3, pl_40_5, pl_40_11, pl_40_16, pl_40_17, pl_40_22, pl_40_23, pl_42_1, pl_42_3, pl_42_5, pl_42_8, pl_43_1, pl_43_3, pl_43_5, pl_43_8, pl_43_10, pl_43_13, pl_43_15, pl_43_18, pl_43_21, pl_46_3, pl_46_5, pl_46_6, pl_48_1, pl_48_2, pl_48_3, pl_52_1, hty, hpl, k6, k6b, h1, h2, e1, e2, z0, z1, y0, y1, k14, k18, k16, k12, -evAppend]
end Go.Proofs.Ytcmbpfobdgijjaa.Env
/- SchemeTells. -/
set_option autoImplicit false
set_option maxRecDepth 100000
set_option maxHeartbeats 2000000
set_option linter.unusedSimpArgs false
set_option linter.unusedVariables false
set_option linter.unusedSectionVars false
namespace Go.Proofs.Ytcmbpfobdgijjaa.Env
open Go.Ev

theorem law4 (bs : List Bd) (hl : bs.length ≤ 9223372036854775807) (hf : ∀ b ∈ bs, b.fit) (t : Ty) (ht : fit t) (name : List Nat) : ∃ h', evL envZ 4 [.sl .no (bds bs), t.av, .str name] ⟨.e, 0⟩ = some (.bool true, h') := by
  have body4 : Try.f4.body = some (codeAt Try.f4 []) := rfl
  have hty : envZ.ty = env.ty := rfl
  have hpl : envZ.plan = env.plan := rfl
  have k6 := fun h => mayZ (o := .no) hl hf h
  have k7 := fun h => c9 (E := envZ) (by kernel_rfl) t 100 ht (by omega) h
  have k8 := fun h => prim1_call (E := envZ) (f := 8) (a := t) (F := isF) (q := fit) (by kernel_rfl) (Enc.bare 0 t) ht h
  simp only [show ∀ t : Ty, (Enc.enc t : AV) = t.av from fun _ => rfl, show ∀ b : Bool, (Enc.enc b : AV) = .bool b from fun _ => rfl] at k8
  obtain ⟨t0, t1, t2, hta⟩ := av_cells t
  rw [evL_fn envZ (by kernel_rfl) (by kernel_rfl) body4 _ _ rfl]
  cases h1 : mayF bs with
  | false =>
    rw [hta] at k7 k8 ⊢
    simp only [codeAt, sub, Try.f4]
    simp [cdL_seq, cdL_region, cdL_drawn, cdL_cond, cdL_block, cdL_skip, cdL_label, cdL_exit, cdL_ret, endL, evSeq, evOne, evAct, evOp, opKind, evPure, evRead, evNew, evWrite, evSlice, natOf, optVal, readAt, AV.cells, wantedA, putTm, val, allVals, evBin, evInt, evStr, evAppend, denseFrom, sizesAre, onesIn, evPlan, recheck, AV.beq_refl, H.new, H.put, fillF, fillAt, allOne, AV.one, setArgs, evRes, resOf, ofVal, ofVal0, blt_dec, ble_dec, beq_dec, T.get_set_ite, T.get_e, isShift, ikBeq, ty_0, ty_1, ty_2, ty_3, ty_4, ty_5, ty_6, ty_7, ty_8, ty_9, ty_10, ty_11, ty_12, ty_13, ty_14, ty_15, ty_16, ty_17, ty_18, ty_19, ty_20, ty_21, ty_22, ty_23, ty_24, ty_25, ty_26, ty_27, ty_28, ty_29, ty_30, ty_31, ty_32, ty_33, ty_34, ty_35, ty_36, ty_37, ty_38, ty_39, ty_40, ty_41, ty_42, ty_43, ty_44, ty_45, ty_46, ty_47, ty_48, ty_49, ty_50, ty_51, ty_52, ty_53, ty_54, ty_55, ty_56, ty_57, ty_58, ty_59, ty_60, ty_61, ty_62, ty_63, ty_64, ty_65, ty_66, ty_67, ty_68, ty_69, ty_70, ty_71, ty_72, ty_73, ty_74, ty_75, ty_76, ty_77, ty_78, ty_79, ty_80, ty_81, ty_82, ty_83, ty_84, ty_85, ty_86, ty_87, ty_88, ty_89, ty_90, ty_91, ty_92, ty_93, ty_94, ty_95, ty_96, ty_97, ty_98, ty_99, pl_3_10, pl_4_3, pl_5_3, pl_10_9, pl_10_11, pl_10_13, pl_13_1, pl_13_7, pl_16_6, pl_18_6, pl_19_1, pl_27_6, pl_27_11, pl_33_17, pl_35_4, pl_35_6, pl_36_10, pl_37_10, pl_39_3, pl_40_5, pl_40_11, pl_40_16, pl_40_17, pl_40_22, pl_40_23, pl_42_1, pl_42_3, pl_42_5, pl_42_8, pl_43_1, pl_43_3, pl_43_5, pl_43_8, pl_43_10, pl_43_13, pl_43_15, pl_43_18, pl_43_21, pl_46_3, pl_46_5, pl_46_6, pl_48_1, pl_48_2, pl_48_3, pl_52_1, hty, hpl, k6, k7, k8, h1]
  | true =>
    cases h2 : ltI 50 (szF t 100) with
    | true =>
      rw [hta] at k7 k8 ⊢
      simp only [codeAt, sub, Try.f4]
      simp [cdL_seq, cdL_region, cdL_drawn, cdL_cond, cdL_block, cdL_skip, cdL_label, cdL_exit, cdL_ret, endL, evSeq, evOne, evAct, evOp, opKind, evPure, evRead, evNew, evWrite, evSlice, natOf, optVal, readAt, AV.cells, wantedA, putTm, val, allVals, evBin, evInt, evStr, evAppend, denseFrom, sizesAre, onesIn, evPlan, recheck, AV.beq_refl, H.new, H.put, fillF, fillAt, allOne, AV.one, setArgs, evRes, resOf, ofVal, ofVal0, blt_dec, ble_dec, beq_dec, T.get_set_ite, T.get_e, isShift, ikBeq, ty_0, ty_1, ty_2, ty_3, ty_4, ty_5, ty_6, ty_7, ty_8, ty_9, ty_10, ty_11, ty_12, ty_13, ty_14, ty_15, ty_16, ty_17, ty_18, ty_19, ty_20, ty_21, ty_22, ty_23, ty_24, ty_25, ty_26, ty_27, ty_28, ty_29, ty_30, ty_31, ty_32, ty_33, ty_34, ty_35, ty_36, ty_37, ty_38, ty_39, ty_40, ty_41, ty_42, ty_43, ty_44, ty_45, ty_46, ty_47, ty_48, ty_49, ty_50, ty_51, ty_52, ty_53, ty_54, ty_55, ty_56, ty_57, ty_58, ty_59, ty_60, ty_61, ty_62, ty_63, ty_64, ty_65, ty_66, ty_67, ty_68, ty_69, ty_70, ty_71, ty_72, ty_73, ty_74, ty_75, ty_76, ty_77, ty_78, ty_79, ty_80, ty_81, ty_82, ty_83, ty_84, ty_85, ty_86, ty_87, ty_88, ty_89, ty_90, ty_91, ty_92, ty_93, ty_94, ty_95, ty_96, ty_97, ty_98, ty_99, pl_3_10, pl_4_3, pl_5_3, pl_10_9, pl_10_11, pl_10_13, pl_13_1, pl_13_7, pl_16_6, pl_18_6, pl_19_1, pl_27_6, pl_27_11, pl_33_17, pl_35_4, pl_35_6, pl_36_10, pl_37_10, pl_39_3, pl_40_5, pl_40_11, pl_40_16, pl_40_17, pl_40_22, pl_40_23, pl_42_1, pl_42_3, pl_42_5, pl_42_8, pl_43_1, pl_43_3, pl_43_5, pl_43_8, pl_43_10, pl_43_13, pl_43_15, pl_43_18, pl_43_21, pl_46_3, pl_46_5, pl_46_6, pl_48_1, pl_48_2, pl_48_3, pl_52_1, hty, hpl, k6, k7, k8, h1, h2]
    | false =>
      cases h3 : isF t with
      | false =>
        rw [hta] at k7 k8 ⊢
        simp only [codeAt, sub, Try.f4]
        simp [cdL_seq, cdL_region, cdL_drawn, cdL_cond, cdL_block, cdL_skip, cdL_label, cdL_exit, cdL_ret, endL, evSeq, evOne, evAct, evOp, opKind, evPure, evRead, evNew, evWrite, evSlice, natOf, optVal, readAt, AV.cells, wantedA, putTm, val, allVals, evBin, evInt, evStr, evAppend, denseFrom, sizesAre, onesIn, evPlan, recheck, AV.beq_refl, H.new, H.put, fillF, fillAt, allOne, AV.one, setArgs, evRes, resOf, ofVal, ofVal0, blt_dec, ble_dec, beq_dec, T.get_set_ite, T.get_e, isShift, ikBeq, ty_0, ty_1, ty_2, ty_3, ty_4, ty_5, ty_6, ty_7, ty_8, ty_9, ty_10, ty_11, ty_12, ty_13, ty_14, ty_15, ty_16, ty_17, ty_18, ty_19, ty_20, ty_21, ty_22, ty_23, ty_24, ty_25, ty_26, ty_27, ty_28, ty_29, ty_30, ty_31, ty_32, ty_33, ty_34, ty_35, ty_36, ty_37, ty_38, ty_39, ty_40, ty_41, ty_42, ty_43, ty_44, ty_45, ty_46, ty_47, ty_48, ty_49, ty_50, ty_51, ty_52, ty_53, ty_54, ty_55, ty_56, ty_57, ty_58, ty_59, ty_60, ty_61, ty_62, ty_63, ty_64, ty_65, ty_66, ty_67, ty_68, ty_69, ty_70, ty_71, ty_72, ty_73, ty_74, ty_75, ty_76, ty_77, ty_78, ty_79, ty_80, ty_81, ty_82, ty_83, ty_84, ty_85, ty_86, ty_87, ty_88, ty_89, ty_90, ty_91, ty_92, ty_93, ty_94, ty_95, ty_96, ty_97, ty_98, ty_99, pl_3_10, pl_4_3, pl_5_3, pl_10_9, pl_10_11, pl_10_13, pl_13_1, pl_13_7, pl_16_6, pl_18_6, pl_19_1, pl_27_6, pl_27_11, pl_33_17, pl_35_4, pl_35_6, pl_36_10, pl_37_10, pl_39_3, pl_40_5, pl_40_11, pl_40_16, pl_40_17, pl_40_22, pl_40_23, pl_42_1, pl_42_3, pl_42_5, pl_42_8, pl_43_1, pl_43_3, pl_43_5, pl_43_8, pl_43_10, pl_43_13, pl_43_15, pl_43_18, pl_43_21, pl_46_3, pl_46_5, pl_46_6, pl_48_1, pl_48_2, pl_48_3, pl_52_1, hty, hpl, k6, k7, k8, h1, h2, h3]
      | true =>
        obtain ⟨hl1, hm1⟩ := may_spec h1
        have hqg : qGen bs t := qGen_of (by omega) hf (fun b hb => (hm1 b hb).2) ht h3
        have xw : (AV.sl .no (bds bs)).wk 0 (Enc.enc bs) := Enc.bare 0 bs
        have k9 := fun h => prim2_call (E := envZ) (f := 9) (a := bs) (b := t) (F := fun bs t => Sc.mk (genF (freeR bs []) (varsF t [])) t) (q := qGen) (by kernel_rfl) xw (Enc.bare 0 t) hqg h
        have k13 := fun h => prim2_call (E := envZ) (f := 13) (a := bs) (b := t) (F := fun bs t => Sc.mk (genF (freeR bs []) (varsF t [])) t) (q := qGen) (by kernel_rfl) xw (Enc.bare 0 t) hqg h
        have k14 := fun h => prim2_call (E := envZ) (f := 14) (a := bs) (b := (⟨name⟩ : Str)) (F := lookF) (q := qLook) (by kernel_rfl) xw (Enc.bare 0 (⟨name⟩ : Str)) (by simp [qLook]; omega) h
        have k15 := fun h => prim2_call (E := envZ) (f := 15) (a := bs) (b := (⟨name⟩ : Str)) (F := lookF) (q := qLook) (by kernel_rfl) xw (Enc.bare 0 (⟨name⟩ : Str)) (by simp [qLook]; omega) h
        have k17 := fun h => prim1_call (E := envZ) (f := 17) (a := bs) (F := fun bs => freeR bs []) (q := qEnv) (by kernel_rfl) xw hqg.1 h
        have k10 := fun h => cRFree (E := envZ) (by kernel_rfl) (x := .sl .no (bds bs)) xw hqg.1 h
        obtain ⟨q1, q2⟩ := lookF_spec hf ⟨name⟩
        generalize lookF bs ⟨name⟩ = lk at k14 k15 q1 q2
        have hgl : (genF (freeR bs []) (varsF t [])).length ≤ 9223372036854775807 := by
          have e1 : (genF (freeR bs []) (varsF t [])).length ≤ (varsF t []).length := List.length_filter_le ..
          have e2 := varsF_len t []
          have e3 := isF_size h3
          simp only [List.length_nil, Nat.zero_add] at e2
          omega
        have hfl := hqg.2.2
        rw [show (Enc.enc (freeR bs []) : AV) = .sl .no (ints (freeR bs [])) from rfl] at k17
        generalize genF (freeR bs []) (varsF t []) = g at k9 k13 hgl
        generalize freeR bs [] = fr at k17 k10 hfl
        have k16 := fun (a : List Int) (ha : a.length ≤ 9223372036854775807) h => prim2_call (E := envZ) (f := 16) (a := a) (b := a) (F := sameI) (q := fun a _ => a.length ≤ 9223372036854775807) (by kernel_rfl) (Enc.bare 0 a) (Enc.bare 0 a) ha h
        simp only [sameI_self, show ∀ L : List Int, (Enc.enc L : AV) = .sl .no (ints L) from fun _ => rfl, show ∀ b : Bool, (Enc.enc b : AV) = .bool b from fun _ => rfl] at k16
        have k16a := k16 g hgl
        have k16b := k16 fr hfl
        have k16c := k16 lk.sc.vars q1
        have k18 := fun (a : Ty) (ha : fit a) h => prim2_call (E := envZ) (f := 18) (a := a) (b := a) (F := sameF) (q := fun a b => fit a ∧ fit b) (by kernel_rfl) (Enc.bare 0 a) (Enc.bare 0 a) ⟨ha, ha⟩ h
        simp only [sameF_iff.2 rfl, show ∀ t : Ty, (Enc.enc t : AV) = t.av from fun _ => rfl, show ∀ b : Bool, (Enc.enc b : AV) = .bool b from fun _ => rfl] at k18
        have k18a := k18 t ht
        have k18b := k18 lk.sc.ty q2
        have hee : evEq TK.bool (.bool lk.ok) (.bool lk.ok) = some true := by simp [evEq]
        simp only [show (Enc.enc bs : AV) = .sl .no (bds bs) from rfl, show (Enc.enc t : AV) = t.av from rfl, show (Enc.enc (⟨name⟩ : Str) : AV) = .str name from rfl, show (Enc.enc (⟨g, t⟩ : Sc) : AV) = .agg (.sl .no (ints g) :: t.av.cells) from rfl, show (Enc.enc lk : AV) = .tup [.agg (.sl .no (ints lk.sc.vars) :: lk.sc.ty.av.cells), .bool lk.ok] from rfl] at k9 k13 k14 k15
        obtain ⟨y0, y1, y2, hya⟩ := av_cells lk.sc.ty
        rw [hta] at k7 k8 k9 k13 k18a ⊢
        rw [hya] at k14 k15 k18b
        simp only [AV.cells] at k9 k13 k14 k15
        obtain ⟨kn, k12⟩ : ∃ kn : H → H, ∀ h, evL envZ 12 [] h = some (.bool true, kn h) := ⟨fun h => (knownZ h).choose, fun h => (knownZ h).choose_spec⟩
        simp only [codeAt, sub, Try.f4]
        simp [cdL_seq, cdL_region, cdL_drawn, cdL_cond, cdL_block, cdL_skip, cdL_label, cdL_exit, cdL_ret, endL, evSeq, evOne, evAct, evOp, opKind, evPure, evRead, evNew, evWrite, evSlice, natOf, optVal, readAt, AV.cells, wantedA, putTm, val, allVals, evBin, evInt, evStr, evAppend, denseFrom, sizesAre, onesIn, evPlan, recheck, AV.beq_refl, H.new, H.put, fillF, fillAt, allOne, AV.one, setArgs, evRes, resOf, ofVal, ofVal0, blt_dec, ble_dec, beq_dec, T.get_set_ite, T.get_e, isShift, ikBeq, ty_0, ty_1, ty_2, ty_3, ty_4, ty_5, ty_6, ty_7, ty_8, ty_9, ty_10, ty_11, ty_12, ty_13, ty_14, ty_15, ty_16, ty_17, ty_18, ty_19, ty_20, ty_21, ty_22, ty_23, ty_24, ty_25, ty_26, ty_27, ty_28, ty_29, ty_30, ty_31, ty_32, ty_33, ty_34, ty_35, ty_36, ty_37, ty_38, ty_39, ty_40, ty_41, ty_42, ty_43, ty_44, ty_45, ty_46, ty_47, ty_48, ty_49, ty_50, ty_51, ty_52, ty_53, ty_54, ty_55, ty_56, ty_57, ty_58, ty_59, ty_60, ty_61, ty_62, ty_63, ty_64, ty_65, ty_66, ty_67, ty_68, ty_69, ty_70, ty_71, ty_72, ty_73, ty_74, ty_75, ty_76, ty_77, ty_78, ty_79, ty_80, ty_81, ty_82, ty_83, ty_84, ty_85, ty_86, ty_87, ty_88, ty_89, ty_90, ty_91, ty_92, ty_93, ty_94, ty_95, ty_96, ty_97, ty_98, ty_99, pl_3_10, pl_4_3, pl_5_3, pl_10_9, pl_10_11, pl_10_13, pl_13_1, pl_13_7, pl_16_6, pl_18_6, pl_19_1, pl_27_6, pl_27_11, pl_33_17, pl_35_4, pl_35_6, pl_36_10, pl_37_10, pl_39_3, pl_40_5, pl_40_11, pl_40_16, pl_40_17, pl_40_22, pl_40_23, pl_42_1, pl_42_3, pl_42_5, pl_42_8, pl_43_1, pl_43_3, pl_43_5, pl_43_8, pl_43_10, pl_43_13, pl_43_15, pl_43_18, pl_43_21, pl_46_3, pl_46_5, pl_46_6, pl_48_1, pl_48_2, pl_48_3, pl_52_1, hty, hpl, k6, k7, k8, h1, h2, h3, k12, hee, k9, k13, k14, k15, k17, k10, k16a, k16b, k16c, k18a, k18b]
end Go.Proofs.Ytcmbpfobdgijjaa.Env
/- SchemeOwn. -/
set_option autoImplicit false
set_option maxRecDepth 100000
set_option maxHeartbeats 2000000
set_option linter.unusedSimpArgs false
set_option linter.unusedVariables false
set_option linter.unusedSectionVars false
namespace Go.Proofs.Ytcmbpfobdgijjaa.Env
open Go.Ev

noncomputable def bO3_0 : Code := loopOf Try.f3 0
theorem bodyO3 : Try.f3.body = some (.seq (codeAt Try.f3 [0]) (.seq (codeAt Try.f3 [1, 0]) (.seq (codeAt Try.f3 [1, 1, 0]) (.seq (codeAt Try.f3 [1, 1, 1, 0]) (.seq (.seq (codeAt Try.f3 [1, 1, 1, 1, 0, 0]) (.block 0 (.loop bO3_0))) (codeAt Try.f3 [1, 1, 1, 1, 1])))))) := rfl
theorem loopO3 {E : Env} (hty : E.ty = env.ty) (hpl : E.plan = env.plan) (h11 : E.prim 11 = some p22) {f g : List Int} {p : Nat} {cs : List AV} (hcs : cs.length = 3) (hg : g.length ≤ 1000000) (hfl : f.length ≤ 9223372036854775807) (hno : ∀ v ∈ g, hasI f v = false) :
    ∀ (l : List Int) (i : Nat) {tm : Tm} {h : H} {x : Option (Ex × Tm × H)}, cdL E 3 58 (.loop bO3_0) tm h = x → l = g.drop i → i ≤ g.length → h.t.get p = some (.cells (.sl .no (ints g) :: cs)) →
    tm.get 5 = some (.ptr (some (p, 0))) → tm.get 6 = some (.sl .no (ints f)) → tm.get 7 = some (.int .i64 ↑i) →
    ∃ tm', x = some (.exit 0, tm', h) ∧ ∀ k, k < 5 → tm'.get k = tm.get k
  | [], i, tm, h, x, hx, hd, hi, hz, g5, g6, g7 => by
    have hlen := dnil hd hi
    have hil := ints_len g
    rw [hlen] at hil
    obtain ⟨R, hR, hx⟩ := loop_step hx
    simp [bO3_0, loopOf, Try.f3, loops, cdL_seq, cdL_region, cdL_drawn, cdL_cond, cdL_block, cdL_skip, cdL_label, cdL_exit, cdL_ret, endL, evSeq, evOne, evAct, evOp, opKind, evPure, evRead, evNew, evWrite, evSlice, natOf, optVal, readAt, AV.cells, wantedA, putTm, val, allVals, evBin, evInt, evStr, evAppend, denseFrom, sizesAre, onesIn, evPlan, recheck, AV.beq_refl, H.new, H.put, fillF, fillAt, allOne, AV.one, setArgs, evRes, resOf, ofVal, ofVal0, blt_dec, ble_dec, beq_dec, T.get_set_ite, T.get_e, isShift, ikBeq, ty_0, ty_1, ty_2, ty_3, ty_4, ty_5, ty_6, ty_7, ty_8, ty_9, ty_10, ty_11, ty_12, ty_13, ty_14, ty_15, ty_16, ty_17, ty_18, ty_19, ty_20, ty_21, ty_22, ty_23, ty_24, ty_25, ty_26, ty_27, ty_28, ty_29, ty_30, ty_31, ty_32, ty_33, ty_34, ty_35, ty_36, ty_37, ty_38, ty_39, ty_40, ty_41, ty_42, ty_43, ty_44, ty_45, ty_46, ty_47, ty_48, ty_49, ty_50, ty_51, ty_52, ty_53, ty_54, ty_55, ty_56, ty_57, ty_58, ty_59, ty_60, ty_61, ty_62, ty_63, ty_64, ty_65, ty_66, ty_67, ty_68, ty_69, ty_70, ty_71, ty_72, ty_73, ty_74, ty_75, ty_76, ty_77, ty_78, ty_79, ty_80, ty_81, ty_82, ty_83, ty_84, ty_85, ty_86, ty_87, ty_88, ty_89, ty_90, ty_91, ty_92, ty_93, ty_94, ty_95, ty_96, ty_97, ty_98, ty_99, pl_3_10, pl_4_3, pl_5_3, pl_10_9, pl_10_11, pl_10_13, pl_13_1, pl_13_7, pl_16_6, pl_18_6, pl_19_1, pl_27_6, pl_27_11, pl_33_17, pl_35_4, pl_35_6, pl_36_10, pl_37_10, pl_39_3, pl_40_5, pl_40_11, pl_40_16, pl_40_17, pl_40_22, pl_40_23, pl_42_1, pl_42_3, pl_42_5, pl_42_8, pl_43_1, pl_43_3, pl_43_5, pl_43_8, pl_43_10, pl_43_13, pl_43_15, pl_43_18, pl_43_21, pl_46_3, pl_46_5, pl_46_6, pl_48_1, pl_48_2, pl_48_3, pl_52_1, lp, hty, hpl, g5, g6, g7, hz, hil, ltI_f] at hx
    exact ⟨_, hx.symm, fun k hk => by simp only [T.get_set_ite]; repeat rw [if_neg (by omega)]⟩
  | v :: l, i, tm, h, x, hx, hd, hi, hz, g5, g6, g7 => by
    obtain ⟨hlt, hc, hd'⟩ := dcons hd
    have hil := ints_len g
    have hic := ints_get hc
    have hlt' := ltI_t hlt
    have hw := wr_succ (i := i) (by omega)
    have hv := hno v (List.mem_of_getElem? hc)
    have k1 := fun h => c22 (E := E) h11 .no f v hfl h
    rw [hv] at k1
    simp only [show ∀ L : List Int, L.map (AV.int .i64) = ints L from fun _ => rfl] at k1
    obtain ⟨c0, c1, c2, rfl⟩ : ∃ c0 c1 c2, cs = [c0, c1, c2] := by
      match cs, hcs with
      | [c0, c1, c2], _ => exact ⟨c0, c1, c2, rfl⟩
    obtain ⟨R, hR, hx⟩ := loop_step hx
    simp [bO3_0, loopOf, Try.f3, loops, cdL_seq, cdL_region, cdL_drawn, cdL_cond, cdL_block, cdL_skip, cdL_label, cdL_exit, cdL_ret, endL, evSeq, evOne, evAct, evOp, opKind, evPure, evRead, evNew, evWrite, evSlice, natOf, optVal, readAt, AV.cells, wantedA, putTm, val, allVals, evBin, evInt, evStr, evAppend, denseFrom, sizesAre, onesIn, evPlan, recheck, AV.beq_refl, H.new, H.put, fillF, fillAt, allOne, AV.one, setArgs, evRes, resOf, ofVal, ofVal0, blt_dec, ble_dec, beq_dec, T.get_set_ite, T.get_e, isShift, ikBeq, ty_0, ty_1, ty_2, ty_3, ty_4, ty_5, ty_6, ty_7, ty_8, ty_9, ty_10, ty_11, ty_12, ty_13, ty_14, ty_15, ty_16, ty_17, ty_18, ty_19, ty_20, ty_21, ty_22, ty_23, ty_24, ty_25, ty_26, ty_27, ty_28, ty_29, ty_30, ty_31, ty_32, ty_33, ty_34, ty_35, ty_36, ty_37, ty_38, ty_39, ty_40, ty_41, ty_42, ty_43, ty_44, ty_45, ty_46, ty_47, ty_48, ty_49, ty_50, ty_51, ty_52, ty_53, ty_54, ty_55, ty_56, ty_57, ty_58, ty_59, ty_60, ty_61, ty_62, ty_63, ty_64, ty_65, ty_66, ty_67, ty_68, ty_69, ty_70, ty_71, ty_72, ty_73, ty_74, ty_75, ty_76, ty_77, ty_78, ty_79, ty_80, ty_81, ty_82, ty_83, ty_84, ty_85, ty_86, ty_87, ty_88, ty_89, ty_90, ty_91, ty_92, ty_93, ty_94, ty_95, ty_96, ty_97, ty_98, ty_99, pl_3_10, pl_4_3, pl_5_3, pl_10_9, pl_10_11, pl_10_13, pl_13_1, pl_13_7, pl_16_6, pl_18_6, pl_19_1, pl_27_6, pl_27_11, pl_33_17, pl_35_4, pl_35_6, pl_36_10, pl_37_10, pl_39_3, pl_40_5, pl_40_11, pl_40_16, pl_40_17, pl_40_22, pl_40_23, pl_42_1, pl_42_3, pl_42_5, pl_42_8, pl_43_1, pl_43_3, pl_43_5, pl_43_8, pl_43_10, pl_43_13, pl_43_15, pl_43_18, pl_43_21, pl_46_3, pl_46_5, pl_46_6, pl_48_1, pl_48_2, pl_48_3, pl_52_1, lp, hty, hpl, g5, g6, g7, hz, hil, hlt', hic, k1, hw] at hx
    rw [hR] at hx
    obtain ⟨tm', q1, q2⟩ := loopO3 hty hpl h11 (p := p) (cs := [c0, c1, c2]) rfl hg hfl hno l (i + 1) hx hd' hlt hz (by simp [T.get_set_ite, g5]) (by simp [T.get_set_ite, g6]) (by simp [T.get_set_ite])
    refine ⟨tm', q1, fun k hk => ?_⟩
    rw [q2 k hk]
    simp only [T.get_set_ite]
    repeat rw [if_neg (by omega)]
theorem genF_no (own V : List Int) : ∀ v ∈ genF own V, hasI own v = false := by
  intro v hv
  simp only [genF, List.mem_filter, Bool.not_eq_true'] at hv
  exact hv.2
theorem genF_none (own V : List Int) (h : ∀ v ∈ V, v ∈ own) : genF own V = [] := by
  simp only [genF, List.filter_eq_nil_iff]
  intro v hv
  rw [hasI_iff.2 (h v hv)]
  simp
theorem wks_append {n : Nat} : ∀ {a b c d : List AV}, AV.wks n a b → AV.wks n c d → AV.wks n (a ++ c) (b ++ d)
  | [], b, c, d, h, k => by simp only [AV.wks] at h; subst h; exact k
  | x :: a, b, c, d, h, k => by
    simp only [AV.wks] at h
    obtain ⟨y, b', rfl, h1, h2⟩ := h
    exact wks_cons.2 ⟨h1, wks_append h2 k⟩
theorem law3 (bs : List Bd) (hl : bs.length ≤ 9223372036854775807) (hf : ∀ b ∈ bs, b.fit) (t : Ty) (ht : fit t) : ∃ h', evL envZ 3 [.sl .no (bds bs), t.av] ⟨.e, 0⟩ = some (.bool true, h') := by
  have hty : envZ.ty = env.ty := rfl
  have hpl : envZ.plan = env.plan := rfl
  have k6 := fun h => mayZ (o := .no) hl hf h
  have k7 := fun h => c9 (E := envZ) (by kernel_rfl) t 100 ht (by omega) h
  have k8 := fun h => prim1_call (E := envZ) (f := 8) (a := t) (F := isF) (q := fit) (by kernel_rfl) (Enc.bare 0 t) ht h
  simp only [show ∀ t : Ty, (Enc.enc t : AV) = t.av from fun _ => rfl, show ∀ b : Bool, (Enc.enc b : AV) = .bool b from fun _ => rfl] at k8
  obtain ⟨t0, t1, t2, hta⟩ := av_cells t
  rw [evL_fn envZ (by kernel_rfl) (by kernel_rfl) bodyO3 _ _ rfl]
  cases h1 : mayF bs with
  | false =>
    rw [hta] at k7 k8 ⊢
    simp only [codeAt, sub, Try.f3]
    simp [cdL_seq, cdL_region, cdL_drawn, cdL_cond, cdL_block, cdL_skip, cdL_label, cdL_exit, cdL_ret, endL, evSeq, evOne, evAct, evOp, opKind, evPure, evRead, evNew, evWrite, evSlice, natOf, optVal, readAt, AV.cells, wantedA, putTm, val, allVals, evBin, evInt, evStr, evAppend, denseFrom, sizesAre, onesIn, evPlan, recheck, AV.beq_refl, H.new, H.put, fillF, fillAt, allOne, AV.one, setArgs, evRes, resOf, ofVal, ofVal0, blt_dec, ble_dec, beq_dec, T.get_set_ite, T.get_e, isShift, ikBeq, ty_0, ty_1, ty_2, ty_3, ty_4, ty_5, ty_6, ty_7, ty_8, ty_9, ty_10, ty_11, ty_12, ty_13, ty_14, ty_15, ty_16, ty_17, ty_18, ty_19, ty_20, ty_21, ty_22, ty_23, ty_24, ty_25, ty_26, ty_27, ty_28, ty_29, ty_30, ty_31, ty_32, ty_33, ty_34, ty_35, ty_36, ty_37, ty_38, ty_39, ty_40, ty_41, ty_42, ty_43, ty_44, ty_45, ty_46, ty_47, ty_48, ty_49, ty_50, ty_51, ty_52, ty_53, ty_54, ty_55, ty_56, ty_57, ty_58, ty_59, ty_60, ty_61, ty_62, ty_63, ty_64, ty_65, ty_66, ty_67, ty_68, ty_69, ty_70, ty_71, ty_72, ty_73, ty_74, ty_75, ty_76, ty_77, ty_78, ty_79, ty_80, ty_81, ty_82, ty_83, ty_84, ty_85, ty_86, ty_87, ty_88, ty_89, ty_90, ty_91, ty_92, ty_93, ty_94, ty_95, ty_96, ty_97, ty_98, ty_99, pl_3_10, pl_4_3, pl_5_3, pl_10_9, pl_10_11, pl_10_13, pl_13_1, pl_13_7, pl_16_6, pl_18_6, pl_19_1, pl_27_6, pl_27_11, pl_33_17, pl_35_4, pl_35_6, pl_36_10, pl_37_10, pl_39_3, pl_40_5, pl_40_11, pl_40_16, pl_40_17, pl_40_22, pl_40_23, pl_42_1, pl_42_3, pl_42_5, pl_42_8, pl_43_1, pl_43_3, pl_43_5, pl_43_8, pl_43_10, pl_43_13, pl_43_15, pl_43_18, pl_43_21, pl_46_3, pl_46_5, pl_46_6, pl_48_1, pl_48_2, pl_48_3, pl_52_1, hty, hpl, k6, k7, k8, h1]
  | true =>
    cases h2 : ltI 50 (szF t 100) with
    | true =>
      rw [hta] at k7 k8 ⊢
      simp only [codeAt, sub, Try.f3]
      simp [cdL_seq, cdL_region, cdL_drawn, cdL_cond, cdL_block, cdL_skip, cdL_label, cdL_exit, cdL_ret, endL, evSeq, evOne, evAct, evOp, opKind, evPure, evRead, evNew, evWrite, evSlice, natOf, optVal, readAt, AV.cells, wantedA, putTm, val, allVals, evBin, evInt, evStr, evAppend, denseFrom, sizesAre, onesIn, evPlan, recheck, AV.beq_refl, H.new, H.put, fillF, fillAt, allOne, AV.one, setArgs, evRes, resOf, ofVal, ofVal0, blt_dec, ble_dec, beq_dec, T.get_set_ite, T.get_e, isShift, ikBeq, ty_0, ty_1, ty_2, ty_3, ty_4, ty_5, ty_6, ty_7, ty_8, ty_9, ty_10, ty_11, ty_12, ty_13, ty_14, ty_15, ty_16, ty_17, ty_18, ty_19, ty_20, ty_21, ty_22, ty_23, ty_24, ty_25, ty_26, ty_27, ty_28, ty_29, ty_30, ty_31, ty_32, ty_33, ty_34, ty_35, ty_36, ty_37, ty_38, ty_39, ty_40, ty_41, ty_42, ty_43, ty_44, ty_45, ty_46, ty_47, ty_48, ty_49, ty_50, ty_51, ty_52, ty_53, ty_54, ty_55, ty_56, ty_57, ty_58, ty_59, ty_60, ty_61, ty_62, ty_63, ty_64, ty_65, ty_66, ty_67, ty_68, ty_69, ty_70, ty_71, ty_72, ty_73, ty_74, ty_75, ty_76, ty_77, ty_78, ty_79, ty_80, ty_81, ty_82, ty_83, ty_84, ty_85, ty_86, ty_87, ty_88, ty_89, ty_90, ty_91, ty_92, ty_93, ty_94, ty_95, ty_96, ty_97, ty_98, ty_99, pl_3_10, pl_4_3, pl_5_3, pl_10_9, pl_10_11, pl_10_13, pl_13_1, pl_13_7, pl_16_6, pl_18_6, pl_19_1, pl_27_6, pl_27_11, pl_33_17, pl_35_4, pl_35_6, pl_36_10, pl_37_10, pl_39_3, pl_40_5, pl_40_11, pl_40_16, pl_40_17, pl_40_22, pl_40_23, pl_42_1, pl_42_3, pl_42_5, pl_42_8, pl_43_1, pl_43_3, pl_43_5, pl_43_8, pl_43_10, pl_43_13, pl_43_15, pl_43_18, pl_43_21, pl_46_3, pl_46_5, pl_46_6, pl_48_1, pl_48_2, pl_48_3, pl_52_1, hty, hpl, k6, k7, k8, h1, h2]
    | false =>
      cases h3 : isF t with
      | false =>
        rw [hta] at k7 k8 ⊢
        simp only [codeAt, sub, Try.f3]
        simp [cdL_seq, cdL_region, cdL_drawn, cdL_cond, cdL_block, cdL_skip, cdL_label, cdL_exit, cdL_ret, endL, evSeq, evOne, evAct, evOp, opKind, evPure, evRead, evNew, evWrite, evSlice, natOf, optVal, readAt, AV.cells, wantedA, putTm, val, allVals, evBin, evInt, evStr, evAppend, denseFrom, sizesAre, onesIn, evPlan, recheck, AV.beq_refl, H.new, H.put, fillF, fillAt, allOne, AV.one, setArgs, evRes, resOf, ofVal, ofVal0, blt_dec, ble_dec, beq_dec, T.get_set_ite, T.get_e, isShift, ikBeq, ty_0, ty_1, ty_2, ty_3, ty_4, ty_5, ty_6, ty_7, ty_8, ty_9, ty_10, ty_11, ty_12, ty_13, ty_14, ty_15, ty_16, ty_17, ty_18, ty_19, ty_20, ty_21, ty_22, ty_23, ty_24, ty_25, ty_26, ty_27, ty_28, ty_29, ty_30, ty_31, ty_32, ty_33, ty_34, ty_35, ty_36, ty_37, ty_38, ty_39, ty_40, ty_41, ty_42, ty_43, ty_44, ty_45, ty_46, ty_47, ty_48, ty_49, ty_50, ty_51, ty_52, ty_53, ty_54, ty_55, ty_56, ty_57, ty_58, ty_59, ty_60, ty_61, ty_62, ty_63, ty_64, ty_65, ty_66, ty_67, ty_68, ty_69, ty_70, ty_71, ty_72, ty_73, ty_74, ty_75, ty_76, ty_77, ty_78, ty_79, ty_80, ty_81, ty_82, ty_83, ty_84, ty_85, ty_86, ty_87, ty_88, ty_89, ty_90, ty_91, ty_92, ty_93, ty_94, ty_95, ty_96, ty_97, ty_98, ty_99, pl_3_10, pl_4_3, pl_5_3, pl_10_9, pl_10_11, pl_10_13, pl_13_1, pl_13_7, pl_16_6, pl_18_6, pl_19_1, pl_27_6, pl_27_11, pl_33_17, pl_35_4, pl_35_6, pl_36_10, pl_37_10, pl_39_3, pl_40_5, pl_40_11, pl_40_16, pl_40_17, pl_40_22, pl_40_23, pl_42_1, pl_42_3, pl_42_5, pl_42_8, pl_43_1, pl_43_3, pl_43_5, pl_43_8, pl_43_10, pl_43_13, pl_43_15, pl_43_18, pl_43_21, pl_46_3, pl_46_5, pl_46_6, pl_48_1, pl_48_2, pl_48_3, pl_52_1, hty, hpl, k6, k7, k8, h1, h2, h3]
      | true =>
        obtain ⟨hl1, hm1⟩ := may_spec h1
        have hi1 : ∀ b ∈ bs, isF b.ty = true := fun b hb => (hm1 b hb).2
        have hqg : qGen bs t := qGen_of (by omega) hf hi1 ht h3
        obtain ⟨z, hzb⟩ : ∃ z : Bd, z = ⟨[122], [], t⟩ := ⟨_, rfl⟩
        have hf2 : ∀ b ∈ bs ++ [z], b.fit := fun b hb => by
          rcases List.mem_append.1 hb with h | h
          · exact hf b h
          · rw [List.mem_singleton.1 h, hzb]; exact ⟨by simp, ht⟩
        have hi2 : ∀ b ∈ bs ++ [z], isF b.ty = true := fun b hb => by
          rcases List.mem_append.1 hb with h | h
          · exact hi1 b h
          · rw [List.mem_singleton.1 h, hzb]; exact h3
        have hqg2 : qGen (bs ++ [z]) t := qGen_of (by simp; omega) hf2 hi2 ht h3
        have xw : (AV.sl .no (bds bs)).wk 0 (Enc.enc bs) := Enc.bare 0 bs
        have k9 := fun h => prim2_call (E := envZ) (f := 9) (a := bs) (b := t) (F := fun bs t => Sc.mk (genF (freeR bs []) (varsF t [])) t) (q := qGen) (by kernel_rfl) xw (Enc.bare 0 t) hqg h
        have k10 := fun h => cRFree (E := envZ) (by kernel_rfl) (x := .sl .no (bds bs)) xw hqg.1 h
        have hgl : (genF (freeR bs []) (varsF t [])).length ≤ 1000000 := by
          have e1 : (genF (freeR bs []) (varsF t [])).length ≤ (varsF t []).length := List.length_filter_le ..
          have e2 := varsF_len t []
          have e3 := isF_size h3
          simp only [List.length_nil, Nat.zero_add] at e2
          omega
        have hfl := hqg.2.2
        have hno := genF_no (freeR bs []) (varsF t [])
        have hnone : genF (freeR (bs ++ [z]) []) (varsF t []) = [] := genF_none _ _ fun v hv => by
          rw [(freeR_up (bs ++ [z]) [] (by simp [Up])).2]
          refine .inr ?_
          have : ∀ (l : List Bd), v ∈ freeS (l ++ [z]) := by
            intro l
            induction l with
            | nil => rw [List.nil_append, hzb]; simp only [freeS, ownV, List.append_nil, List.mem_filter]; exact ⟨hv, by simp [hasI]⟩
            | cons b l ih => rw [List.cons_append, freeS]; exact List.mem_append_right _ ih
          exact this bs
        generalize genF (freeR bs []) (varsF t []) = g at k9 hgl hno
        generalize freeR bs [] = fr at k10 hfl hno
        -- the second env
        obtain ⟨zW, hzW⟩ : ∃ zW : AV, zW = .agg [.str [122], .sl .full [], .str t0, .int .i64 t1, .sl .no t2] := ⟨_, rfl⟩
        have hzw : zW.wk 0 z.av := by
          have hb := Ty.av_bare 0 t
          rw [hta, wk_agg] at hb
          rw [hzW, hzb]
          simp only [Bd.av]
          rw [hta]
          simp only [AV.cells]
          rw [wk_agg, wks_cons, wks_cons]
          refine ⟨by simp [AV.wk], ?_, hb⟩
          rw [wk_sl]
          exact ⟨own_no, by simp [ints, AV.wks]⟩
        have hob : onesIn [zW] = true := by rw [hzW]; rfl
        have hsb : sizesAre 5 [zW] = true := by rw [hzW]; rfl
        obtain ⟨w1, ha, e1, r1, n1, f1⟩ := app_any (e := 36) (sz := 5) (byt := 88) (h := ⟨(((T.e.set 0 (Ev.Obj.cells [.str t0, .int .i64 t1, .sl .no t2])).set 1 (.cells [.sl .full [], .str [], .int .i64 0, .sl .full []])).set 1 (.cells [.sl .no (ints g), .str t0, .int .i64 t1, .sl .no t2])).set 2 (.cells [.sl .full [], .str [], .int .i64 0, .sl .full []]), 3⟩) (w := .full) (xs := []) (ys := bds bs) (by omega) (by omega) rfl (bds_sizes bs) (bds_ones bs) (by rw [bds_len]; simp; omega) (.inl ⟨rfl, rfl⟩)
        rw [List.nil_append] at e1 r1
        have z0 : ha.t.get 0 = some (.cells [.str t0, .int .i64 t1, .sl .no t2]) := by rw [f1 0 (by simp) (by simp)]; simp [T.get_set_ite]
        have z1 : ha.t.get 1 = some (.cells [.sl .no (ints g), .str t0, .int .i64 t1, .sl .no t2]) := by rw [f1 1 (by simp) (by simp)]; simp [T.get_set_ite]
        have z2 : ha.t.get 2 = some (.cells [.sl .full [], .str [], .int .i64 0, .sl .full []]) := by rw [f1 2 (by simp) (by simp)]; simp [T.get_set_ite]
        obtain ⟨w2, hb2, e2, r2, n2, f2⟩ := app_any (e := 36) (sz := 5) (byt := 88) (h := ha) (w := w1) (xs := bds bs) (ys := [zW]) (by omega) (by omega) (bds_sizes bs) hsb hob (by rw [bds_len]; simp; omega) r1
        have hne : ∀ {q : Nat} {cs : List AV}, ha.t.get q = some (Ev.Obj.cells cs) → w1 ≠ .ch q := fun hq => by
          rcases r1 with ⟨rfl, _⟩ | ⟨id, rfl, hg, _⟩
          · simp
          · rintro ⟨⟩; rw [hq] at hg; cases hg
        simp only at n1
        have y0 : hb2.t.get 0 = some (.cells [.str t0, .int .i64 t1, .sl .no t2]) := by rw [f2 0 (by omega) (hne z0)]; exact z0
        have y2 : hb2.t.get 2 = some (.cells [.sl .full [], .str [], .int .i64 0, .sl .full []]) := by rw [f2 2 (by omega) (hne z2)]; exact z2
        have k9b := fun h => prim2_call (E := envZ) (f := 9) (a := bs ++ [z]) (b := t) (F := fun bs t => Sc.mk (genF (freeR bs []) (varsF t [])) t) (q := qGen) (by kernel_rfl) (x := .sl w2 (bds bs ++ [zW])) (y := t.av)
          (by
            rw [show (Enc.enc (bs ++ [z]) : AV) = .sl .no (bds bs ++ [z.av]) from by show AV.sl .no (bds (bs ++ [z])) = _; simp [bds]]
            refine wk_sl.2 ⟨own_no, wks_append (wk_sl.1 (Enc.bare 0 bs)).2 (wks_cons.2 ⟨hzw, wks_nil⟩)⟩) (Enc.bare 0 t) hqg2 h
        simp only [hnone] at k9b
        rw [show (Enc.enc (⟨[], t⟩ : Sc) : AV) = .agg (.sl .no [] :: t.av.cells) from rfl, hta] at k9b
        rw [hzW] at e2 k9b
        simp only [AV.cells] at k9b
        have hb22 : bytesOf ⟨#[122]⟩ = [122] := rfl
        obtain ⟨kn, k12⟩ : ∃ kn : H → H, ∀ h, evL envZ 12 [] h = some (.bool true, kn h) := ⟨fun h => (knownZ h).choose, fun h => (knownZ h).choose_spec⟩
        simp only [show (Enc.enc bs : AV) = .sl .no (bds bs) from rfl, show (Enc.enc t : AV) = t.av from rfl, show (Enc.enc (⟨g, t⟩ : Sc) : AV) = .agg (.sl .no (ints g) :: t.av.cells) from rfl] at k9
        have hta' := hta
        rw [hta] at k7 k8 k9 ⊢
        simp only [AV.cells] at k9
        simp only [codeAt, sub, Try.f3]
        simp [cdL_seq, cdL_region, cdL_drawn, cdL_cond, cdL_block, cdL_skip, cdL_label, cdL_exit, cdL_ret, endL, evSeq, evOne, evAct, evOp, opKind, evPure, evRead, evNew, evWrite, evSlice, natOf, optVal, readAt, AV.cells, wantedA, putTm, val, allVals, evBin, evInt, evStr, evAppend, denseFrom, sizesAre, onesIn, evPlan, recheck, AV.beq_refl, H.new, H.put, fillF, fillAt, allOne, AV.one, setArgs, evRes, resOf, ofVal, ofVal0, blt_dec, ble_dec, beq_dec, T.get_set_ite, T.get_e, isShift, ikBeq, ty_0, ty_1, ty_2, ty_3, ty_4, ty_5, ty_6, ty_7, ty_8, ty_9, ty_10, ty_11, ty_12, ty_13, ty_14, ty_15, ty_16, ty_17, ty_18, ty_19, ty_20, ty_21, ty_22, ty_23, ty_24, ty_25, ty_26, ty_27, ty_28, ty_29, ty_30, ty_31, ty_32, ty_33, ty_34, ty_35, ty_36, ty_37, ty_38, ty_39, ty_40, ty_41, ty_42, ty_43, ty_44, ty_45, ty_46, ty_47, ty_48, ty_49, ty_50, ty_51, ty_52, ty_53, ty_54, ty_55, ty_56, ty_57, ty_58, ty_59, ty_60, ty_61, ty_62, ty_63, ty_64, ty_65, ty_66, ty_67, ty_68, ty_69, ty_70, ty_71, ty_72, ty_73, ty_74, ty_75, ty_76, ty_77, ty_78, ty_79, ty_80, ty_81, ty_82, ty_83, ty_84, ty_85, ty_86, ty_87, ty_88, ty_89, ty_90, ty_91, ty_92, ty_93, ty_94, ty_95, ty_96, ty_97, ty_98, ty_99, pl_3_10, pl_4_3, pl_5_3, pl_10_9, pl_10_11, pl_10_13, pl_13_1, pl_13_7, pl_16_6, pl_18_6, pl_19_1, pl_27_6, pl_27_11, pl_33_17, pl_35_4, pl_35_6, pl_36_10, pl_37_10, pl_39_3, pl_40_5, pl_40_11, pl_40_16, pl_40_17, pl_40_22, pl_40_23, pl_42_1, pl_42_3, pl_42_5, pl_42_8, pl_43_1, pl_43_3, pl_43_5, pl_43_8, pl_43_10, pl_43_13, pl_43_15, pl_43_18, pl_43_21, pl_46_3, pl_46_5, pl_46_6, pl_48_1, pl_48_2, pl_48_3, pl_52_1, hty, hpl, k6, k7, k8, h1, h2, h3, k9, k10, k12, -evAppend]
        generalize hx : cdL envZ 3 58 (.loop bO3_0) _ _ = x
        obtain ⟨tm', rfl, q2⟩ := loopO3 (E := envZ) hty hpl (by kernel_rfl) (f := fr) (g := g) (p := 1) (cs := [.str t0, .int .i64 t1, .sl .no t2]) rfl hgl hfl hno g 0 hx rfl (Nat.zero_le _) (by simp [T.get_set_ite]) (by simp [T.get_set_ite]) (by simp [T.get_set_ite]) (by simp [T.get_set_ite])
        have g0 := q2 0 (by omega)
        have g3 := q2 3 (by omega)
        simp [T.get_set_ite] at g0 g3
        simp [cdL_seq, cdL_region, cdL_drawn, cdL_cond, cdL_block, cdL_skip, cdL_label, cdL_exit, cdL_ret, endL, evSeq, evOne, evAct, evOp, opKind, evPure, evRead, evNew, evWrite, evSlice, natOf, optVal, readAt, AV.cells, wantedA, putTm, val, allVals, evBin, evInt, evStr, evAppend, denseFrom, sizesAre, onesIn, evPlan, recheck, AV.beq_refl, H.new, H.put, fillF, fillAt, allOne, AV.one, setArgs, evRes, resOf, ofVal, ofVal0, blt_dec, ble_dec, beq_dec, T.get_set_ite, T.get_e, isShift, ikBeq, ty_0, ty_1, ty_2, ty_3, ty_4, ty_5, ty_6, ty_7, ty_8, ty_9, ty_10, ty_11, ty_12, ty_13, ty_14, ty_15, ty_16, ty_17, ty_18, ty_19, ty_20, ty_21, ty_22, ty_23, ty_24, ty_25, ty_26, ty_27, ty_28, ty_29, ty_30, ty_31, ty_32, ty_33, ty_34, ty_35, ty_36, ty_37, ty_38, ty_39, ty_40, ty_41, ty_42, ty_43, ty_44, ty_45, ty_46, ty_47, ty_48, ty_49, ty_50, ty_51, ty_52, ty_53, ty_54, ty_55, ty_56, ty_57, ty_58, ty_59, ty_60, ty_61, ty_62, ty_63, ty_64, ty_65, ty_66, ty_67, ty_68, ty_69, ty_70, ty_71, ty_72, ty_73, ty_74, ty_75, ty_76, ty_77, ty_78, ty_79, ty_80, ty_81, ty_82, ty_83, ty_84, ty_85, ty_86, ty_87, ty_88, ty_89, ty_90, ty_91, ty_92, ty_93, ty_94, ty_95, ty_96, ty_97, ty_98, ty_99, pl_3_10, pl_4_3, pl_5_3, pl_10_9, pl_10_11, pl_10_13, pl_13_1, pl_13_7, pl_16_6, pl_18_6, pl_19_1, pl_27_6, pl_27_11, pl_33_17, pl_35_4, pl_35_6, pl_36_10, pl_37_10, pl_39_3, pl_40_5, pl_40_11, pl_40_16, pl_40_17, pl_40_22, pl_40_23, pl_42_1, pl_42_3, pl_42_5, pl_42_8, pl_43_1, pl_43_3, pl_43_5, pl_43_8, pl_43_10, pl_43_13, pl_43_15, pl_43_18, pl_43_21, pl_46_3, pl_46_5, pl_46_6, pl_48_1, pl_48_2, pl_48_3, pl_52_1, hty, hpl, g0, g3, hb22, e1, e2, z0, z1, z2, y0, y2, k9b, k12, intBeq, -evAppend]
end Go.Proofs.Ytcmbpfobdgijjaa.Env
/- Types, bounds, rows of bounds among a row's arguments, opened. -/
set_option autoImplicit false
set_option maxRecDepth 100000
set_option linter.unusedVariables false
namespace Go.Proofs.Ytcmbpfobdgijjaa.Env
open Go.Ev Go.ChangeShapes Go.WideShapes Go.ChangeAt Go.RowKit
theorem ka_none (w : World) : ∀ p ∈ (default : KA0).ka, p.2 w.heap[p.1]? ∧ p.1 < w.heap.size := fun p hp => by cases hp
theorem own : ownKnob Try.prog.godebug = none := by kernel_rfl
theorem laidOut : laidOutB Try.prog = true := by kernel_rfl
theorem tyS2 : closedB Try.prog [22, 36, 31, 29, 25, 23, 9, 3] = true := by kernel_rfl
theorem shp_ints {cs : List AV} (h : Shp Try.prog 29 cs) : ∃ L : List Int, cs = [.sl .no (ints L)] ∧ L.length ≤ 9223372036854775807 := by
  cases h with
  | str _ _ h => rw [Try.underlying29] at h; cases h
  | int _ _ _ h => rw [Try.underlying29] at h; cases h
  | bool _ _ h => rw [Try.underlying29] at h; cases h
  | st _ _ _ h => rw [Try.underlying29] at h; cases h
  | sl _ e els h hl hx ha =>
    rw [Try.underlying29] at h
    cases h
    simp only [Try.underlying3] at ha
    have : ∀ l : List AV, (∀ x ∈ l, ∃ n : Int, x = .int .i64 n) → ∃ L : List Int, l = ints L := by
      intro l
      induction l with
      | nil => intro _; exact ⟨[], rfl⟩
      | cons x l ih =>
        intro h
        obtain ⟨n, rfl⟩ := h x (List.mem_cons_self ..)
        obtain ⟨L, rfl⟩ := ih fun x hx => h x (List.mem_cons_of_mem _ hx)
        exact ⟨n :: L, rfl⟩
    obtain ⟨L, rfl⟩ := this els fun x hx' => by
      obtain ⟨n, hn, _⟩ := shp_int (hx x hx')
      rw [ha x hx'] at hn
      cases hn
      exact ⟨n, rfl⟩
    exact ⟨L, rfl, by rw [ints_len] at hl; exact hl⟩
theorem shp_bd {cs : List AV} (h : Shp Try.prog 36 cs) : ∃ b : Bd, cs = b.av.cells ∧ b.fit := by
  cases h with
  | str _ _ h => rw [Try.underlying36] at h; cases h
  | int _ _ _ h => rw [Try.underlying36] at h; cases h
  | bool _ _ h => rw [Try.underlying36] at h; cases h
  | sl _ _ _ h => rw [Try.underlying36] at h; cases h
  | st _ fs ps h hf hp =>
    rw [Try.underlying36] at h
    cases h
    match ps, hf with
    | [(t0, a0), (t1, a1)], hf =>
      simp at hf
      obtain ⟨rfl, rfl⟩ := hf
      obtain ⟨s, rfl⟩ := shp_str (hp _ (List.mem_cons_self ..))
      have h1 := hp _ (List.mem_cons_of_mem _ (List.mem_cons_self ..))
      simp only at h1
      generalize hu : (31 : Nat) = u at h1
      cases h1 with
      | str _ _ h => subst hu; rw [Try.underlying31] at h; cases h
      | int _ _ _ h => subst hu; rw [Try.underlying31] at h; cases h
      | bool _ _ h => subst hu; rw [Try.underlying31] at h; cases h
      | sl _ _ _ h => subst hu; rw [Try.underlying31] at h; cases h
      | st _ fs ps2 h hf2 hp2 =>
        subst hu
        rw [Try.underlying31] at h
        cases h
        clear hp
        match ps2, hf2 with
        | [(t0, b0), (t1, b1)], hf =>
          simp at hf
          obtain ⟨rfl, rfl⟩ := hf
          obtain ⟨L, rfl, hL⟩ := shp_ints (hp2 _ (List.mem_cons_self ..))
          obtain ⟨T, hT, hTf⟩ := (shp_ty (hp2 _ (List.mem_cons_of_mem _ (List.mem_cons_self ..)))).1 rfl
          simp only at hT
          subst hT
          refine ⟨⟨bytesOf s, L, T⟩, ?_, hL, hTf⟩
          cases T
          simp [Bd.av, AV.cells, Ty.av, Ty.op, Ty.n, Ty.kids]
        | [], hf => simp at hf
        | [_], hf => simp at hf
        | _ :: _ :: _ :: _, hf => simp at hf
    | [], hf => simp at hf
    | [_], hf => simp at hf
    | _ :: _ :: _ :: _, hf => simp at hf
theorem shp_bds {cs : List AV} (h : Shp Try.prog 22 cs) : ∃ bs : List Bd, cs = [.sl .no (bds bs)] ∧ bs.length ≤ 9223372036854775807 ∧ ∀ b ∈ bs, b.fit := by
  cases h with
  | str _ _ h => rw [Try.underlying22] at h; cases h
  | int _ _ _ h => rw [Try.underlying22] at h; cases h
  | bool _ _ h => rw [Try.underlying22] at h; cases h
  | st _ _ _ h => rw [Try.underlying22] at h; cases h
  | sl _ e els h hl hx ha =>
    rw [Try.underlying22] at h
    cases h
    simp only [Try.underlying36] at ha
    have : ∀ l : List AV, (∀ x ∈ l, ∃ b : Bd, x = b.av ∧ b.fit) → ∃ bs : List Bd, l = bds bs ∧ ∀ b ∈ bs, b.fit := by
      intro l
      induction l with
      | nil => intro _; exact ⟨[], rfl, fun b hb => by cases hb⟩
      | cons x l ih =>
        intro h
        obtain ⟨b, rfl, hb⟩ := h x (List.mem_cons_self ..)
        obtain ⟨L, rfl, hL⟩ := ih fun x hx => h x (List.mem_cons_of_mem _ hx)
        refine ⟨b :: L, rfl, fun c hc => ?_⟩
        rcases List.mem_cons.1 hc with rfl | hc
        · exact hb
        · exact hL c hc
    obtain ⟨L, rfl, hL⟩ := this els fun x hx' => by
      obtain ⟨b, hb, hbf⟩ := shp_bd (hx x hx')
      obtain ⟨cs, rfl⟩ := ha x hx'
      exact ⟨b, by simp only [Bd.av, AV.cells] at hb ⊢; rw [hb], hbf⟩
    exact ⟨L, rfl, by rw [bds_len] at hl; exact hl, hL⟩
theorem agg_of {W : World} {base : Nat} {t : Nat} {v : Value} {fs : Array Field} (hu : Try.prog.underlying t = some (.struct fs)) (hok : Value.okWide Try.prog W .any base t v) : ∃ c, v = .agg c := by
  unfold Value.okWide at hok
  rw [hu] at hok
  obtain ⟨c, rfl, _⟩ := hok
  exact ⟨c, rfl⟩
theorem open_ty {H' : Type} {enc : TypeId × Value → H'} {W : World} {sp : Nat → Bool} {held : Bool} {base : Nat} {v : Value} {d : DataW H'} {ps : List MemPlace} (hok : Value.okWide Try.prog W .any base 25 v) (h : DataW.Trod enc Try.prog W 0 sp held 25 v d ps) :
    ∃ t : Ty, fit t ∧ VR (G0 W) W v t.av := by
  obtain ⟨cs, h1, h2⟩ := trodAll_open tyS2 (by simp) h
  obtain ⟨T, rfl, hf⟩ := (shp_ty h2).1 rfl
  obtain ⟨c, rfl⟩ := agg_of Try.underlying25 hok
  refine ⟨T, hf, ?_⟩
  obtain ⟨o, n, ks⟩ := T
  simp only [Value.cells] at h1
  exact .agg c _ (by have := h1.1; simpa using this) (fun i u x hu hx => h1.2 i u x (by simpa using hu) hx)
theorem open_bd {H' : Type} {enc : TypeId × Value → H'} {W : World} {sp : Nat → Bool} {held : Bool} {base : Nat} {v : Value} {d : DataW H'} {ps : List MemPlace} (hok : Value.okWide Try.prog W .any base 36 v) (h : DataW.Trod enc Try.prog W 0 sp held 36 v d ps) :
    ∃ b : Bd, b.fit ∧ VR (G0 W) W v b.av := by
  obtain ⟨cs, h1, h2⟩ := trodAll_open tyS2 (by simp) h
  obtain ⟨b, rfl, hf⟩ := shp_bd h2
  obtain ⟨c, rfl⟩ := agg_of Try.underlying36 hok
  refine ⟨b, hf, ?_⟩
  simp only [Value.cells, Bd.av, AV.cells] at h1
  exact .agg c _ (by have := h1.1; simpa [AV.cells] using this) (fun i u x hu hx => h1.2 i u x (by simpa using hu) hx)
theorem open_bds {H' : Type} {enc : TypeId × Value → H'} {W : World} {sp : Nat → Bool} {held : Bool} {base : Nat} {v : Value} {d : DataW H'} {ps : List MemPlace} (hok : Value.okWide Try.prog W .any base 22 v) (h : DataW.Trod enc Try.prog W 0 sp held 22 v d ps) :
    ∃ bs : List Bd, bs.length ≤ 9223372036854775807 ∧ (∀ b ∈ bs, b.fit) ∧ VR (G0 W) W v (.sl .no (bds bs)) := by
  obtain ⟨cs, h1, h2⟩ := trodAll_open tyS2 (by simp) h
  obtain ⟨bs, rfl, hl, hf⟩ := shp_bds h2
  refine ⟨bs, hl, hf, ?_⟩
  have hone : v.cells = #[v] := by
    cases v with
    | agg c =>
      unfold Value.okWide at hok
      rw [Try.underlying22] at hok
      simp only at hok
      unfold Cell.okWide at hok
      rw [Try.underlying22] at hok
      simp only at hok
      unfold Cell.ok at hok
      rw [Try.underlying22] at hok
      simp at hok
    | _ => rfl
  rw [hone] at h1
  exact h1.2 0 v _ rfl rfl
theorem open_str {H' : Type} {enc : TypeId × Value → H'} {W : World} {sp : Nat → Bool} {held : Bool} {base : Nat} {v : Value} {d : DataW H'} {ps : List MemPlace} (hok : Value.okWide Try.prog W .any base 9 v) (h : DataW.Trod enc Try.prog W 0 sp held 9 v d ps) :
    ∃ s : List Nat, VR (G0 W) W v (.str s) := by
  obtain ⟨cs, h1, h2⟩ := trodAll_open tyS2 (by simp) h
  obtain ⟨s, rfl⟩ := shp_str h2
  refine ⟨bytesOf s, ?_⟩
  have hone : v.cells = #[v] := by
    cases v with
    | agg c =>
      unfold Value.okWide at hok
      rw [Try.underlying9] at hok
      simp only at hok
      unfold Cell.okWide at hok
      rw [Try.underlying9] at hok
      simp only at hok
      unfold Cell.ok at hok
      rw [Try.underlying9] at hok
      simp at hok
    | _ => rfl
  rw [hone] at h1
  exact h1.2 0 v _ rfl rfl
end Go.Proofs.Ytcmbpfobdgijjaa.Env
