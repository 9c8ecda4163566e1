/- The law UnifyMost on the machine. -/
import Derived.Test.YtiifjjcoepgobaaYO
set_option autoImplicit false
set_option maxRecDepth 100000
set_option linter.unusedSimpArgs false
set_option linter.unusedVariables false
set_option linter.unusedSectionVars false
namespace Go.Proofs.Ytiifjjcoepgobaa.Env
open Go.Ev

mutual
theorem put_fit {L : List Int} {U : List Ty} (hU : ∀ u ∈ U, fit u) : ∀ {t : Ty}, fit t → fit (putF t L U)
  | .mk o n ks, h => by
    simp only [putF]
    cases hv : natsBeq o varS with
    | true =>
      simp only [cond_true]
      cases hk : lookP L U n with
      | none => exact h
      | some u => exact hU u (lookP_mem hk)
    | false =>
      simp only [cond_false, fit] at h ⊢
      exact ⟨by rw [putL_len]; exact h.1, h.2.1, putL_fits hU h.2.2⟩
theorem putL_fits {L : List Int} {U : List Ty} (hU : ∀ u ∈ U, fit u) : ∀ {l : List Ty}, fits l → fits (putL l L U)
  | [], _ => trivial
  | t :: l, h => by simp only [fits] at h; exact ⟨put_fit hU h.1, putL_fits hU h.2⟩
theorem lookP_mem {n : Int} {u : Ty} : ∀ {L : List Int} {U : List Ty}, lookP L U n = some u → u ∈ U
  | [], U, h => by simp [lookP] at h
  | k :: l, [], h => by simp [lookP] at h
  | k :: l, w :: us, h => by
    simp only [lookP] at h
    cases hb : intBeq k n with
    | true => rw [hb] at h; simp at h; rw [h]; exact List.mem_cons_self ..
    | false => rw [hb] at h; exact List.mem_cons_of_mem _ (lookP_mem h)
end
mutual
theorem put_good {L : List Int} {U : List Ty} (hU : ∀ u ∈ U, good u) : ∀ {t : Ty}, good t → good (putF t L U)
  | .mk o n ks, h => by
    simp only [putF]
    cases hv : natsBeq o varS with
    | true =>
      simp only [cond_true]
      cases hk : lookP L U n with
      | none => exact h
      | some u => exact hU u (lookP_mem hk)
    | false =>
      simp only [cond_false, good] at h ⊢
      exact ⟨by rw [putL_len]; exact h.1, putL_goods hU h.2⟩
theorem putL_goods {L : List Int} {U : List Ty} (hU : ∀ u ∈ U, good u) : ∀ {l : List Ty}, goods l → goods (putL l L U)
  | [], _ => trivial
  | t :: l, h => by simp only [goods] at h; exact ⟨put_good hU h.1, putL_goods hU h.2⟩
end
noncomputable def envM : Env := addPrim envL 24 p24
theorem envM_ok : EnvOk Try.prog envM := addPrim_ok envL_ok p24_ok
theorem eMty : envM.ty = env.ty := rfl
theorem eMpl : envM.plan = env.plan := rfl
theorem cM10 (t : Ty) (hf : fit t) (h : H) : evL envM 10 [t.av] h = some (.bool (isF t), h) :=
  prim1_call (a := t) (F := isF) (q := fit) (by kernel_rfl) (Enc.bare 0 t) hf h
theorem cM14 (h : H) : evL envM 14 [] h = some (.bool true, h) := by
  rw [evL_prim envM (f := 14) (p := primBool true) (by kernel_rfl)]; rfl
theorem cM15 {x y : AV} {a b : Ty} (hx : x.wk 0 a.av) (hy : y.wk 0 b.av) (ha : fit a) (hb : fit b) (h : H) : evL envM 15 [x, y] h = some (.bool (sameF a b), h) :=
  prim2_call (a := a) (b := b) (F := sameF) (q := fun a b => fit a ∧ fit b) (by kernel_rfl) hx hy ⟨ha, hb⟩ h
theorem cM23 (t : Ty) (hf : fit t) (hs : size t ≤ 1000000) (h : H) : evL envM 23 [t.av] h = some (.sl .no (ints (varsF t [])), h) :=
  prim1_call (a := t) (F := fun t => varsF t []) (q := qv) (by kernel_rfl) (Enc.bare 0 t) ⟨hf, hs⟩ h
theorem newM_run (h : H) : evL envM 11 [] h = some (.ptr (some (h.nx + 1, 0)), ⟨(h.t.set h.nx (.map [])).set (h.nx + 1) (.cells [.map (some h.nx), .int .i64 0]), h.nx + 1 + 1⟩) := by
  rw [evL_fn envM (fn := Try.f11) (by kernel_rfl) (by kernel_rfl) rfl _ _ rfl]
  simp only [Try.f11]
  simp [cdL_seq, cdL_region, cdL_drawn, cdL_cond, cdL_block, cdL_skip, cdL_label, cdL_exit, cdL_ret, endL, evSeq, evOne, evAct, evOp, opKind, evPure, evRead, evNew, evWrite, evSlice, natOf, optVal, readAt, AV.cells, wantedA, putTm, val, allVals, evBin, evInt, evStr, evAppend, denseFrom, sizesAre, onesIn, evPlan, recheck, AV.beq_refl, H.new, H.put, fillF, fillAt, allOne, AV.one, setArgs, evRes, resOf, ofVal, ofVal0, blt_dec, ble_dec, beq_dec, T.get_set_ite, T.get_e, isShift, ikBeq, ty_0, ty_1, ty_2, ty_3, ty_4, ty_5, ty_6, ty_7, ty_8, ty_9, ty_10, ty_11, ty_12, ty_13, ty_14, ty_15, ty_16, ty_17, ty_18, ty_19, ty_20, ty_21, ty_22, ty_23, ty_24, ty_25, ty_26, ty_27, ty_28, ty_29, ty_30, ty_31, ty_32, ty_33, ty_34, ty_35, ty_36, ty_37, ty_38, ty_39, ty_40, ty_41, ty_42, ty_43, ty_44, ty_45, ty_46, ty_47, ty_48, ty_49, ty_50, ty_51, ty_52, ty_53, ty_54, ty_55, ty_56, ty_57, ty_58, ty_59, ty_60, ty_61, ty_62, ty_63, ty_64, ty_65, ty_66, ty_67, ty_68, ty_69, ty_70, ty_71, ty_72, ty_73, ty_74, ty_75, ty_76, ty_77, ty_78, pl_3_7, pl_3_12, pl_3_14, pl_3_15, pl_3_17, pl_4_12, pl_5_7, pl_6_16, pl_6_21, pl_7_3, pl_7_7, pl_8_5, pl_12_3, pl_13_1, pl_13_11, pl_15_6, pl_16_8, pl_17_4, pl_19_5, pl_19_12, pl_24_5, pl_24_12, pl_26_1, pl_27_2, pl_28_3, pl_30_3, pl_33_2, eMty, eMpl]
def intS : List Nat := [105, 110, 116]
/-- The type for the i-th var. -/
def tyAt (by' : List Ty) (i : Nat) : Ty := (by'[i]?).getD (.mk intS 0 [])
def okV (v : Ty) : Bool := !ltI 8 (szF v 100) && (isF v && intBeq ↑(varsF v []).length 0)
theorem tyAt_fit {bs : List Ty} (h : fits bs) (i : Nat) : fit (tyAt bs i) := by
  unfold tyAt
  cases hb : bs[i]? with
  | none => simp [fit, fits]
  | some t => exact fits_mem.1 h t (List.mem_of_getElem? hb)
noncomputable def b6_0 : Code := loopOf Try.f6 0
noncomputable def b6_1 : Code := loopOf Try.f6 1
theorem body6 : Try.f6.body = some (.seq (codeAt Try.f6 [0]) (.seq (codeAt Try.f6 [1, 0]) (.seq (codeAt Try.f6 [1, 1, 0]) (.seq (codeAt Try.f6 [1, 1, 1, 0]) (.seq (.seq (codeAt Try.f6 [1, 1, 1, 1, 0, 0]) (.block 0 (.loop b6_0))) (.seq (codeAt Try.f6 [1, 1, 1, 1, 1, 0]) (.seq (codeAt Try.f6 [1, 1, 1, 1, 1, 1, 0]) (.seq (codeAt Try.f6 [1, 1, 1, 1, 1, 1, 1, 0]) (.seq (.seq (codeAt Try.f6 [1, 1, 1, 1, 1, 1, 1, 1, 0, 0]) (.block 2 (.loop b6_1))) (codeAt Try.f6 [1, 1, 1, 1, 1, 1, 1, 1, 1])))))))))) := rfl
structure R6 (L : List Int) (bs : List Ty) (c : Ev.Obj) (i : Nat) (w : Own) (els : List AV) (done : List Ty) (tm : Tm) (h : H) : Prop where
  g1 : tm.get 1 = some (.sl .no (Ty.avs bs))
  g2 : tm.get 2 = some (.ptr (some (0, 0)))
  g5 : tm.get 5 = some (.sl .no (ints L))
  g6 : tm.get 6 = some (.sl w els)
  g7 : tm.get 7 = some (.int .i64 ↑i)
  z0 : h.t.get 0 = some c
  zn : 1 ≤ h.nx
  r : RowE 25 3 h w els
  w0 : w ≠ .ch 0
  hw : AV.wks 0 els (Ty.avs done)
  hs : sizesAre 3 els = true
theorem sizes_app : ∀ {a b : List AV}, sizesAre 3 a = true → sizesAre 3 b = true → sizesAre 3 (a ++ b) = true
  | [], b, _, h => h
  | x :: a, b, h1, h2 => by
    simp only [sizesAre, List.cons_append, Bool.and_eq_true] at h1 ⊢
    exact ⟨h1.1, sizes_app h1.2 h2⟩
theorem wks_app {n : Nat} : ∀ {a b c d : List AV}, AV.wks n a c → AV.wks n b d → AV.wks n (a ++ b) (c ++ d)
  | [], b, c, d, h1, h2 => by simp only [AV.wks] at h1; rw [h1]; exact h2
  | x :: a, b, c, d, h1, h2 => by
    simp only [AV.wks] at h1
    obtain ⟨y, k, rfl, h3, h4⟩ := h1
    exact ⟨y, k ++ d, rfl, h3, wks_app h4 h2⟩
theorem loop6_0 {L : List Int} {bs : List Ty} {c : Ev.Obj} (hL : L.length ≤ 1000000) (hb : bs.length ≤ 6) (hf : fits bs) :
    ∀ (l : List Int) (i : Nat) (w : Own) (els : List AV) (done : List Ty) {tm : Tm} {h : H} {x : Option (Ex × Tm × H)}, cdL envM 6 102 (.loop b6_0) tm h = x → l = L.drop i → i ≤ L.length → done.length = i → done = (List.range i).map (tyAt bs) → (∀ v ∈ done, okV v = true) → R6 L bs c i w els done tm h →
    (∃ tm' h', x = some (.ret, tm', h') ∧ tm'.get 4 = some (.bool true)) ∨
    ∃ tm' h' w' els', x = some (.exit 0, tm', h') ∧ R6 L bs c L.length w' els' ((List.range L.length).map (tyAt bs)) tm' h' ∧ ∀ v ∈ (List.range L.length).map (tyAt bs), okV v = true
  | [], i, w, els, done, tm, h, x, hx, hd, hi, hdl, hde, hok, R0 => by
    have hlen := dnil hd hi
    have hil : (ints L).length = i := by rw [ints_len]; exact hlen
    obtain ⟨g1, g2, g5, g6, g7, z0, zn, r, w0, hw, hs⟩ := R0
    obtain ⟨R, hR, hx⟩ := loop_step hx
    simp [b6_0, loopOf, Try.f6, loops, cdL_seq, cdL_region, cdL_drawn, cdL_cond, cdL_block, cdL_skip, cdL_label, cdL_exit, cdL_ret, endL, evSeq, evOne, evAct, evOp, opKind, evPure, evRead, evNew, evWrite, evSlice, natOf, optVal, readAt, AV.cells, wantedA, putTm, val, allVals, evBin, evInt, evStr, evAppend, denseFrom, sizesAre, onesIn, evPlan, recheck, AV.beq_refl, H.new, H.put, fillF, fillAt, allOne, AV.one, setArgs, evRes, resOf, ofVal, ofVal0, blt_dec, ble_dec, beq_dec, T.get_set_ite, T.get_e, isShift, ikBeq, ty_0, ty_1, ty_2, ty_3, ty_4, ty_5, ty_6, ty_7, ty_8, ty_9, ty_10, ty_11, ty_12, ty_13, ty_14, ty_15, ty_16, ty_17, ty_18, ty_19, ty_20, ty_21, ty_22, ty_23, ty_24, ty_25, ty_26, ty_27, ty_28, ty_29, ty_30, ty_31, ty_32, ty_33, ty_34, ty_35, ty_36, ty_37, ty_38, ty_39, ty_40, ty_41, ty_42, ty_43, ty_44, ty_45, ty_46, ty_47, ty_48, ty_49, ty_50, ty_51, ty_52, ty_53, ty_54, ty_55, ty_56, ty_57, ty_58, ty_59, ty_60, ty_61, ty_62, ty_63, ty_64, ty_65, ty_66, ty_67, ty_68, ty_69, ty_70, ty_71, ty_72, ty_73, ty_74, ty_75, ty_76, ty_77, ty_78, pl_3_7, pl_3_12, pl_3_14, pl_3_15, pl_3_17, pl_4_12, pl_5_7, pl_6_16, pl_6_21, pl_7_3, pl_7_7, pl_8_5, pl_12_3, pl_13_1, pl_13_11, pl_15_6, pl_16_8, pl_17_4, pl_19_5, pl_19_12, pl_24_5, pl_24_12, pl_26_1, pl_27_2, pl_28_3, pl_30_3, pl_33_2, lp, eMty, eMpl, g1, g2, g5, g6, g7, hil, ltI_f] at hx
    refine .inr ⟨_, h, w, els, hx.symm, ?_, ?_⟩
    · rw [hlen, ← hde]
      exact ⟨by simp [T.get_set_ite, g1], by simp [T.get_set_ite, g2], by simp [T.get_set_ite, g5], by simp [T.get_set_ite, g6], by simp [T.get_set_ite, g7], z0, zn, r, w0, hw, hs⟩
    · rw [hlen, ← hde]; exact hok
  | n :: l, i, w, els, done, tm, h, x, hx, hd, hi, hdl, hde, hok, R0 => by
    obtain ⟨hlt, hc, hd'⟩ := dcons hd
    have hil := ints_len L
    obtain ⟨g1, g2, g5, g6, g7, z0, zn, r, w0, hww, hss⟩ := R0
    obtain ⟨R, hR, hx⟩ := loop_step hx
    have hlt' := ltI_t hlt
    have hw := wr_succ (i := i) (by omega)
    have hbl := avs_len bs
    obtain ⟨v, hv⟩ : ∃ v, v = tyAt bs i := ⟨_, rfl⟩
    have hfv : fit v := by rw [hv]; exact tyAt_fit hf i
    have hn0 : (0 : Nat) ≠ h.nx := by omega
    have hn0' : h.nx ≠ 0 := by omega
    have hn1 : (0 : Nat) ≠ h.nx + 1 := by omega
    have hel : els.length = done.length := by rw [(wks_iff.1 hww).1, avs_len]
    have hby : (els.length + 1) * 48 ≤ 140737488355328 := by omega
    have hde' : done ++ [v] = (List.range (i + 1)).map (tyAt bs) := by rw [List.range_succ, List.map_append, ← hde, hv]; rfl
    -- the type as it lies
    obtain ⟨v0, v1, v2, hva⟩ := av_cells v
    have kx : ∀ m : Own, (AV.agg [.str v0, .int .i64 v1, .sl m v2]).wk 0 v.av := fun m => by
      have := Ty.av_bare 0 v
      rw [hva] at this ⊢
      simp only [wk_agg, wks_cons, wk_sl] at this ⊢
      exact ⟨this.1, this.2.1, ⟨own_no, this.2.2.1.2⟩, this.2.2.2⟩
    have k9 := fun m h => prim2_call (E := envM) (f := 9) (a := v) (b := (100 : Int)) (F := szF) (q := q9') (y := .int .i64 100) (by kernel_rfl) (kx m) (by simp [AV.wk, Enc.enc]) ⟨hfv, by omega⟩ h
    have k10 := fun m h => prim1_call (E := envM) (f := 10) (a := v) (F := isF) (q := fit) (by kernel_rfl) (kx m) hfv h
    simp only [show ∀ n : Int, (Enc.enc n : AV) = .int .i64 n from fun _ => rfl, show ∀ b : Bool, (Enc.enc b : AV) = .bool b from fun _ => rfl] at k9 k10
    -- what comes behind the choice
    have go : ∀ (m : Own) (hm : m = .no ∨ m = .full) (hcase : (m = .no ∧ (Ty.avs bs)[i]? = some (.agg [.str v0, .int .i64 v1, .sl m v2]) ∧ ltI ↑i ↑bs.length = true) ∨ (m = .full ∧ v0 = intS ∧ v1 = 0 ∧ v2 = [] ∧ ltI ↑i ↑bs.length = false)),
        (∃ tm' h', x = some (.ret, tm', h') ∧ tm'.get 4 = some (.bool true)) ∨
        ∃ tm' h' w' els', x = some (.exit 0, tm', h') ∧ R6 L bs c L.length w' els' ((List.range L.length).map (tyAt bs)) tm' h' ∧ ∀ v ∈ (List.range L.length).map (tyAt bs), okV v = true := by
      intro m hm hcase
      have k9 := k9 m
      have k10 := k10 m
      have fin : ∀ (w' : Own) (tm1 : Tm) (h1 : H), cdL envM 6 102 (.loop b6_0) tm1 h1 = x → okV v = true → tm1.get 1 = some (.sl .no (Ty.avs bs)) → tm1.get 2 = some (.ptr (some (0, 0))) → tm1.get 5 = some (.sl .no (ints L)) → tm1.get 6 = some (.sl w' (els ++ [.agg [.str v0, .int .i64 v1, .sl m v2]])) → tm1.get 7 = some (.int .i64 (↑i + 1)) →
          h1.t.get 0 = some c → 1 ≤ h1.nx → RowE 25 3 h1 w' (els ++ [.agg [.str v0, .int .i64 v1, .sl m v2]]) → w' ≠ .ch 0 → (∃ tm' h', x = some (.ret, tm', h') ∧ tm'.get 4 = some (.bool true)) ∨
        ∃ tm' h' w' els', x = some (.exit 0, tm', h') ∧ R6 L bs c L.length w' els' ((List.range L.length).map (tyAt bs)) tm' h' ∧ ∀ v ∈ (List.range L.length).map (tyAt bs), okV v = true := by
        intro w' tm1 h1 hq hok1 q1 q2 q5 q6 q7 qz qn qr qw
        exact loop6_0 hL hb hf l (i + 1) w' _ (done ++ [v]) hq hd' hlt (by simp; omega) hde' (fun u hu => by
          rcases List.mem_append.1 hu with hu | hu
          · exact hok u hu
          · rw [List.mem_singleton.1 hu]; exact hok1) ⟨q1, q2, q5, q6, by simpa using q7, qz, qn, qr, qw, by rw [← avs_add]; exact wks_app hww (wks1.2 (kx m)), sizes_app hss (by simp [sizesAre, AV.cells, beq_dec])⟩
      cases e1 : ltI 8 (szF v 100) with
      | true =>
        rcases hcase with ⟨rfl, hat, hlb⟩ | ⟨rfl, rfl, rfl, rfl, hlb⟩
        · simp [b6_0, loopOf, Try.f6, loops, cdL_seq, cdL_region, cdL_drawn, cdL_cond, cdL_block, cdL_skip, cdL_label, cdL_exit, cdL_ret, endL, evSeq, evOne, evAct, evOp, opKind, evPure, evRead, evNew, evWrite, evSlice, natOf, optVal, readAt, AV.cells, wantedA, putTm, val, allVals, evBin, evInt, evStr, evAppend, denseFrom, sizesAre, onesIn, evPlan, recheck, AV.beq_refl, H.new, H.put, fillF, fillAt, allOne, AV.one, setArgs, evRes, resOf, ofVal, ofVal0, blt_dec, ble_dec, beq_dec, T.get_set_ite, T.get_e, isShift, ikBeq, ty_0, ty_1, ty_2, ty_3, ty_4, ty_5, ty_6, ty_7, ty_8, ty_9, ty_10, ty_11, ty_12, ty_13, ty_14, ty_15, ty_16, ty_17, ty_18, ty_19, ty_20, ty_21, ty_22, ty_23, ty_24, ty_25, ty_26, ty_27, ty_28, ty_29, ty_30, ty_31, ty_32, ty_33, ty_34, ty_35, ty_36, ty_37, ty_38, ty_39, ty_40, ty_41, ty_42, ty_43, ty_44, ty_45, ty_46, ty_47, ty_48, ty_49, ty_50, ty_51, ty_52, ty_53, ty_54, ty_55, ty_56, ty_57, ty_58, ty_59, ty_60, ty_61, ty_62, ty_63, ty_64, ty_65, ty_66, ty_67, ty_68, ty_69, ty_70, ty_71, ty_72, ty_73, ty_74, ty_75, ty_76, ty_77, ty_78, pl_3_7, pl_3_12, pl_3_14, pl_3_15, pl_3_17, pl_4_12, pl_5_7, pl_6_16, pl_6_21, pl_7_3, pl_7_7, pl_8_5, pl_12_3, pl_13_1, pl_13_11, pl_15_6, pl_16_8, pl_17_4, pl_19_5, pl_19_12, pl_24_5, pl_24_12, pl_26_1, pl_27_2, pl_28_3, pl_30_3, pl_33_2, lp, eMty, eMpl, g1, g2, g5, g6, g7, hil, hbl, hlt', hw, hat, hlb, k9, k10, e1, bytesOf] at hx
          exact .inl ⟨_, _, hx.symm, by simp [T.get_set_ite]⟩
        · simp only [intS] at k9 k10
          simp [b6_0, loopOf, Try.f6, loops, cdL_seq, cdL_region, cdL_drawn, cdL_cond, cdL_block, cdL_skip, cdL_label, cdL_exit, cdL_ret, endL, evSeq, evOne, evAct, evOp, opKind, evPure, evRead, evNew, evWrite, evSlice, natOf, optVal, readAt, AV.cells, wantedA, putTm, val, allVals, evBin, evInt, evStr, evAppend, denseFrom, sizesAre, onesIn, evPlan, recheck, AV.beq_refl, H.new, H.put, fillF, fillAt, allOne, AV.one, setArgs, evRes, resOf, ofVal, ofVal0, blt_dec, ble_dec, beq_dec, T.get_set_ite, T.get_e, isShift, ikBeq, ty_0, ty_1, ty_2, ty_3, ty_4, ty_5, ty_6, ty_7, ty_8, ty_9, ty_10, ty_11, ty_12, ty_13, ty_14, ty_15, ty_16, ty_17, ty_18, ty_19, ty_20, ty_21, ty_22, ty_23, ty_24, ty_25, ty_26, ty_27, ty_28, ty_29, ty_30, ty_31, ty_32, ty_33, ty_34, ty_35, ty_36, ty_37, ty_38, ty_39, ty_40, ty_41, ty_42, ty_43, ty_44, ty_45, ty_46, ty_47, ty_48, ty_49, ty_50, ty_51, ty_52, ty_53, ty_54, ty_55, ty_56, ty_57, ty_58, ty_59, ty_60, ty_61, ty_62, ty_63, ty_64, ty_65, ty_66, ty_67, ty_68, ty_69, ty_70, ty_71, ty_72, ty_73, ty_74, ty_75, ty_76, ty_77, ty_78, pl_3_7, pl_3_12, pl_3_14, pl_3_15, pl_3_17, pl_4_12, pl_5_7, pl_6_16, pl_6_21, pl_7_3, pl_7_7, pl_8_5, pl_12_3, pl_13_1, pl_13_11, pl_15_6, pl_16_8, pl_17_4, pl_19_5, pl_19_12, pl_24_5, pl_24_12, pl_26_1, pl_27_2, pl_28_3, pl_30_3, pl_33_2, lp, eMty, eMpl, g1, g2, g5, g6, g7, hil, hbl, hlt', hw, hlb, k9, k10, e1, bytesOf] at hx
          exact .inl ⟨_, _, hx.symm, by simp [T.get_set_ite]⟩
      | false =>
        cases e2 : isF v with
        | false =>
          rcases hcase with ⟨rfl, hat, hlb⟩ | ⟨rfl, rfl, rfl, rfl, hlb⟩
          · simp [b6_0, loopOf, Try.f6, loops, cdL_seq, cdL_region, cdL_drawn, cdL_cond, cdL_block, cdL_skip, cdL_label, cdL_exit, cdL_ret, endL, evSeq, evOne, evAct, evOp, opKind, evPure, evRead, evNew, evWrite, evSlice, natOf, optVal, readAt, AV.cells, wantedA, putTm, val, allVals, evBin, evInt, evStr, evAppend, denseFrom, sizesAre, onesIn, evPlan, recheck, AV.beq_refl, H.new, H.put, fillF, fillAt, allOne, AV.one, setArgs, evRes, resOf, ofVal, ofVal0, blt_dec, ble_dec, beq_dec, T.get_set_ite, T.get_e, isShift, ikBeq, ty_0, ty_1, ty_2, ty_3, ty_4, ty_5, ty_6, ty_7, ty_8, ty_9, ty_10, ty_11, ty_12, ty_13, ty_14, ty_15, ty_16, ty_17, ty_18, ty_19, ty_20, ty_21, ty_22, ty_23, ty_24, ty_25, ty_26, ty_27, ty_28, ty_29, ty_30, ty_31, ty_32, ty_33, ty_34, ty_35, ty_36, ty_37, ty_38, ty_39, ty_40, ty_41, ty_42, ty_43, ty_44, ty_45, ty_46, ty_47, ty_48, ty_49, ty_50, ty_51, ty_52, ty_53, ty_54, ty_55, ty_56, ty_57, ty_58, ty_59, ty_60, ty_61, ty_62, ty_63, ty_64, ty_65, ty_66, ty_67, ty_68, ty_69, ty_70, ty_71, ty_72, ty_73, ty_74, ty_75, ty_76, ty_77, ty_78, pl_3_7, pl_3_12, pl_3_14, pl_3_15, pl_3_17, pl_4_12, pl_5_7, pl_6_16, pl_6_21, pl_7_3, pl_7_7, pl_8_5, pl_12_3, pl_13_1, pl_13_11, pl_15_6, pl_16_8, pl_17_4, pl_19_5, pl_19_12, pl_24_5, pl_24_12, pl_26_1, pl_27_2, pl_28_3, pl_30_3, pl_33_2, lp, eMty, eMpl, g1, g2, g5, g6, g7, hil, hbl, hlt', hw, hat, hlb, k9, k10, e1, e2, bytesOf] at hx
            exact .inl ⟨_, _, hx.symm, by simp [T.get_set_ite]⟩
          · simp only [intS] at k9 k10
            simp [b6_0, loopOf, Try.f6, loops, cdL_seq, cdL_region, cdL_drawn, cdL_cond, cdL_block, cdL_skip, cdL_label, cdL_exit, cdL_ret, endL, evSeq, evOne, evAct, evOp, opKind, evPure, evRead, evNew, evWrite, evSlice, natOf, optVal, readAt, AV.cells, wantedA, putTm, val, allVals, evBin, evInt, evStr, evAppend, denseFrom, sizesAre, onesIn, evPlan, recheck, AV.beq_refl, H.new, H.put, fillF, fillAt, allOne, AV.one, setArgs, evRes, resOf, ofVal, ofVal0, blt_dec, ble_dec, beq_dec, T.get_set_ite, T.get_e, isShift, ikBeq, ty_0, ty_1, ty_2, ty_3, ty_4, ty_5, ty_6, ty_7, ty_8, ty_9, ty_10, ty_11, ty_12, ty_13, ty_14, ty_15, ty_16, ty_17, ty_18, ty_19, ty_20, ty_21, ty_22, ty_23, ty_24, ty_25, ty_26, ty_27, ty_28, ty_29, ty_30, ty_31, ty_32, ty_33, ty_34, ty_35, ty_36, ty_37, ty_38, ty_39, ty_40, ty_41, ty_42, ty_43, ty_44, ty_45, ty_46, ty_47, ty_48, ty_49, ty_50, ty_51, ty_52, ty_53, ty_54, ty_55, ty_56, ty_57, ty_58, ty_59, ty_60, ty_61, ty_62, ty_63, ty_64, ty_65, ty_66, ty_67, ty_68, ty_69, ty_70, ty_71, ty_72, ty_73, ty_74, ty_75, ty_76, ty_77, ty_78, pl_3_7, pl_3_12, pl_3_14, pl_3_15, pl_3_17, pl_4_12, pl_5_7, pl_6_16, pl_6_21, pl_7_3, pl_7_7, pl_8_5, pl_12_3, pl_13_1, pl_13_11, pl_15_6, pl_16_8, pl_17_4, pl_19_5, pl_19_12, pl_24_5, pl_24_12, pl_26_1, pl_27_2, pl_28_3, pl_30_3, pl_33_2, lp, eMty, eMpl, g1, g2, g5, g6, g7, hil, hbl, hlt', hw, hlb, k9, k10, e1, e2, bytesOf] at hx
            exact .inl ⟨_, _, hx.symm, by simp [T.get_set_ite]⟩
        | true =>
          have hsz : size v ≤ 1000000 := by
            have : ¬ (8 : Int) < szF v 100 := by rw [ltI_eq] at e1; simpa using e1
            have := szF_size v 100 (by omega)
            omega
          have k23 := fun h => prim1_call (E := envM) (f := 23) (a := v) (F := fun t => varsF t []) (q := qv) (by kernel_rfl) (kx m) ⟨hfv, hsz⟩ h
          simp only [ints_enc] at k23
          have hvl := ints_len (varsF v [])
          cases e3 : ltI 0 ↑(varsF v []).length with
          | true =>
            rcases hcase with ⟨rfl, hat, hlb⟩ | ⟨rfl, rfl, rfl, rfl, hlb⟩
            · simp [b6_0, loopOf, Try.f6, loops, cdL_seq, cdL_region, cdL_drawn, cdL_cond, cdL_block, cdL_skip, cdL_label, cdL_exit, cdL_ret, endL, evSeq, evOne, evAct, evOp, opKind, evPure, evRead, evNew, evWrite, evSlice, natOf, optVal, readAt, AV.cells, wantedA, putTm, val, allVals, evBin, evInt, evStr, evAppend, denseFrom, sizesAre, onesIn, evPlan, recheck, AV.beq_refl, H.new, H.put, fillF, fillAt, allOne, AV.one, setArgs, evRes, resOf, ofVal, ofVal0, blt_dec, ble_dec, beq_dec, T.get_set_ite, T.get_e, isShift, ikBeq, ty_0, ty_1, ty_2, ty_3, ty_4, ty_5, ty_6, ty_7, ty_8, ty_9, ty_10, ty_11, ty_12, ty_13, ty_14, ty_15, ty_16, ty_17, ty_18, ty_19, ty_20, ty_21, ty_22, ty_23, ty_24, ty_25, ty_26, ty_27, ty_28, ty_29, ty_30, ty_31, ty_32, ty_33, ty_34, ty_35, ty_36, ty_37, ty_38, ty_39, ty_40, ty_41, ty_42, ty_43, ty_44, ty_45, ty_46, ty_47, ty_48, ty_49, ty_50, ty_51, ty_52, ty_53, ty_54, ty_55, ty_56, ty_57, ty_58, ty_59, ty_60, ty_61, ty_62, ty_63, ty_64, ty_65, ty_66, ty_67, ty_68, ty_69, ty_70, ty_71, ty_72, ty_73, ty_74, ty_75, ty_76, ty_77, ty_78, pl_3_7, pl_3_12, pl_3_14, pl_3_15, pl_3_17, pl_4_12, pl_5_7, pl_6_16, pl_6_21, pl_7_3, pl_7_7, pl_8_5, pl_12_3, pl_13_1, pl_13_11, pl_15_6, pl_16_8, pl_17_4, pl_19_5, pl_19_12, pl_24_5, pl_24_12, pl_26_1, pl_27_2, pl_28_3, pl_30_3, pl_33_2, lp, eMty, eMpl, g1, g2, g5, g6, g7, hil, hbl, hlt', hw, hat, hlb, k9, k10, k23, hvl, e1, e2, e3, bytesOf] at hx
              exact .inl ⟨_, _, hx.symm, by simp [T.get_set_ite]⟩
            · simp only [intS] at k9 k10 k23
              simp [b6_0, loopOf, Try.f6, loops, cdL_seq, cdL_region, cdL_drawn, cdL_cond, cdL_block, cdL_skip, cdL_label, cdL_exit, cdL_ret, endL, evSeq, evOne, evAct, evOp, opKind, evPure, evRead, evNew, evWrite, evSlice, natOf, optVal, readAt, AV.cells, wantedA, putTm, val, allVals, evBin, evInt, evStr, evAppend, denseFrom, sizesAre, onesIn, evPlan, recheck, AV.beq_refl, H.new, H.put, fillF, fillAt, allOne, AV.one, setArgs, evRes, resOf, ofVal, ofVal0, blt_dec, ble_dec, beq_dec, T.get_set_ite, T.get_e, isShift, ikBeq, ty_0, ty_1, ty_2, ty_3, ty_4, ty_5, ty_6, ty_7, ty_8, ty_9, ty_10, ty_11, ty_12, ty_13, ty_14, ty_15, ty_16, ty_17, ty_18, ty_19, ty_20, ty_21, ty_22, ty_23, ty_24, ty_25, ty_26, ty_27, ty_28, ty_29, ty_30, ty_31, ty_32, ty_33, ty_34, ty_35, ty_36, ty_37, ty_38, ty_39, ty_40, ty_41, ty_42, ty_43, ty_44, ty_45, ty_46, ty_47, ty_48, ty_49, ty_50, ty_51, ty_52, ty_53, ty_54, ty_55, ty_56, ty_57, ty_58, ty_59, ty_60, ty_61, ty_62, ty_63, ty_64, ty_65, ty_66, ty_67, ty_68, ty_69, ty_70, ty_71, ty_72, ty_73, ty_74, ty_75, ty_76, ty_77, ty_78, pl_3_7, pl_3_12, pl_3_14, pl_3_15, pl_3_17, pl_4_12, pl_5_7, pl_6_16, pl_6_21, pl_7_3, pl_7_7, pl_8_5, pl_12_3, pl_13_1, pl_13_11, pl_15_6, pl_16_8, pl_17_4, pl_19_5, pl_19_12, pl_24_5, pl_24_12, pl_26_1, pl_27_2, pl_28_3, pl_30_3, pl_33_2, lp, eMty, eMpl, g1, g2, g5, g6, g7, hil, hbl, hlt', hw, hlb, k9, k10, k23, hvl, e1, e2, e3, bytesOf] at hx
              exact .inl ⟨_, _, hx.symm, by simp [T.get_set_ite]⟩
          | false =>
            have hok1 : okV v = true := by
              have : intBeq ↑(varsF v []).length 0 = true := by
                rw [ltI_eq] at e3
                simp at e3
                rw [e3]; rfl
              simp [okV, e1, e2, this]
            have h1' : (1 : Nat) ≤ h.nx + 1 + 1 := by omega
            rcases hcase with ⟨rfl, hat, hlb⟩ | ⟨rfl, rfl, rfl, rfl, hlb⟩
            · rcases r with ⟨rfl, e0⟩ | ⟨id, rfl, hg, hid⟩
              · subst e0
                simp [b6_0, loopOf, Try.f6, loops, cdL_seq, cdL_region, cdL_drawn, cdL_cond, cdL_block, cdL_skip, cdL_label, cdL_exit, cdL_ret, endL, evSeq, evOne, evAct, evOp, opKind, evPure, evRead, evNew, evWrite, evSlice, natOf, optVal, readAt, AV.cells, wantedA, putTm, val, allVals, evBin, evInt, evStr, evAppend, denseFrom, sizesAre, onesIn, evPlan, recheck, AV.beq_refl, H.new, H.put, fillF, fillAt, allOne, AV.one, setArgs, evRes, resOf, ofVal, ofVal0, blt_dec, ble_dec, beq_dec, T.get_set_ite, T.get_e, isShift, ikBeq, ty_0, ty_1, ty_2, ty_3, ty_4, ty_5, ty_6, ty_7, ty_8, ty_9, ty_10, ty_11, ty_12, ty_13, ty_14, ty_15, ty_16, ty_17, ty_18, ty_19, ty_20, ty_21, ty_22, ty_23, ty_24, ty_25, ty_26, ty_27, ty_28, ty_29, ty_30, ty_31, ty_32, ty_33, ty_34, ty_35, ty_36, ty_37, ty_38, ty_39, ty_40, ty_41, ty_42, ty_43, ty_44, ty_45, ty_46, ty_47, ty_48, ty_49, ty_50, ty_51, ty_52, ty_53, ty_54, ty_55, ty_56, ty_57, ty_58, ty_59, ty_60, ty_61, ty_62, ty_63, ty_64, ty_65, ty_66, ty_67, ty_68, ty_69, ty_70, ty_71, ty_72, ty_73, ty_74, ty_75, ty_76, ty_77, ty_78, pl_3_7, pl_3_12, pl_3_14, pl_3_15, pl_3_17, pl_4_12, pl_5_7, pl_6_16, pl_6_21, pl_7_3, pl_7_7, pl_8_5, pl_12_3, pl_13_1, pl_13_11, pl_15_6, pl_16_8, pl_17_4, pl_19_5, pl_19_12, pl_24_5, pl_24_12, pl_26_1, pl_27_2, pl_28_3, pl_30_3, pl_33_2, lp, eMty, eMpl, g1, g2, g5, g6, g7, hil, hbl, hlt', hw, hat, hlb, k9, k10, k23, hvl, e1, e2, e3, bytesOf] at hx
                rw [hR] at hx
                exact fin (.ch (h.nx + 1)) _ _ hx hok1 (by simp [T.get_set_ite, g1]) (by simp [T.get_set_ite, g2]) (by simp [T.get_set_ite, g5]) (by simp [T.get_set_ite]) (by simp [T.get_set_ite]) (by simp [T.get_set_ite, hn0, hn1, z0]) (by simp) (.inr ⟨_, rfl, by simp [T.get_set_ite], by simp⟩) (by simp)
              · have hid0 : id ≠ 0 := fun e => w0 (by rw [e])
                have hid0' : 0 ≠ id := Ne.symm hid0
                have hidn : id ≠ h.nx := by omega
                simp [b6_0, loopOf, Try.f6, loops, cdL_seq, cdL_region, cdL_drawn, cdL_cond, cdL_block, cdL_skip, cdL_label, cdL_exit, cdL_ret, endL, evSeq, evOne, evAct, evOp, opKind, evPure, evRead, evNew, evWrite, evSlice, natOf, optVal, readAt, AV.cells, wantedA, putTm, val, allVals, evBin, evInt, evStr, evAppend, denseFrom, sizesAre, onesIn, evPlan, recheck, AV.beq_refl, H.new, H.put, fillF, fillAt, allOne, AV.one, setArgs, evRes, resOf, ofVal, ofVal0, blt_dec, ble_dec, beq_dec, T.get_set_ite, T.get_e, isShift, ikBeq, ty_0, ty_1, ty_2, ty_3, ty_4, ty_5, ty_6, ty_7, ty_8, ty_9, ty_10, ty_11, ty_12, ty_13, ty_14, ty_15, ty_16, ty_17, ty_18, ty_19, ty_20, ty_21, ty_22, ty_23, ty_24, ty_25, ty_26, ty_27, ty_28, ty_29, ty_30, ty_31, ty_32, ty_33, ty_34, ty_35, ty_36, ty_37, ty_38, ty_39, ty_40, ty_41, ty_42, ty_43, ty_44, ty_45, ty_46, ty_47, ty_48, ty_49, ty_50, ty_51, ty_52, ty_53, ty_54, ty_55, ty_56, ty_57, ty_58, ty_59, ty_60, ty_61, ty_62, ty_63, ty_64, ty_65, ty_66, ty_67, ty_68, ty_69, ty_70, ty_71, ty_72, ty_73, ty_74, ty_75, ty_76, ty_77, ty_78, pl_3_7, pl_3_12, pl_3_14, pl_3_15, pl_3_17, pl_4_12, pl_5_7, pl_6_16, pl_6_21, pl_7_3, pl_7_7, pl_8_5, pl_12_3, pl_13_1, pl_13_11, pl_15_6, pl_16_8, pl_17_4, pl_19_5, pl_19_12, pl_24_5, pl_24_12, pl_26_1, pl_27_2, pl_28_3, pl_30_3, pl_33_2, lp, eMty, eMpl, g1, g2, g5, g6, g7, hil, hbl, hlt', hw, hat, hlb, k9, k10, k23, hvl, e1, e2, e3, bytesOf, hg, hidn, hss, hby] at hx
                rw [hR] at hx
                exact fin (.ch id) _ _ hx hok1 (by simp [T.get_set_ite, g1]) (by simp [T.get_set_ite, g2]) (by simp [T.get_set_ite, g5]) (by simp [T.get_set_ite]) (by simp [T.get_set_ite]) (by simp [T.get_set_ite, hn0, hid0', z0]) (by simp) (.inr ⟨_, rfl, by simp [T.get_set_ite], by simp; omega⟩) (by simp [hid0])
            · simp only [intS] at k9 k10 k23 fin
              rcases r with ⟨rfl, e0⟩ | ⟨id, rfl, hg, hid⟩
              · subst e0
                simp [b6_0, loopOf, Try.f6, loops, cdL_seq, cdL_region, cdL_drawn, cdL_cond, cdL_block, cdL_skip, cdL_label, cdL_exit, cdL_ret, endL, evSeq, evOne, evAct, evOp, opKind, evPure, evRead, evNew, evWrite, evSlice, natOf, optVal, readAt, AV.cells, wantedA, putTm, val, allVals, evBin, evInt, evStr, evAppend, denseFrom, sizesAre, onesIn, evPlan, recheck, AV.beq_refl, H.new, H.put, fillF, fillAt, allOne, AV.one, setArgs, evRes, resOf, ofVal, ofVal0, blt_dec, ble_dec, beq_dec, T.get_set_ite, T.get_e, isShift, ikBeq, ty_0, ty_1, ty_2, ty_3, ty_4, ty_5, ty_6, ty_7, ty_8, ty_9, ty_10, ty_11, ty_12, ty_13, ty_14, ty_15, ty_16, ty_17, ty_18, ty_19, ty_20, ty_21, ty_22, ty_23, ty_24, ty_25, ty_26, ty_27, ty_28, ty_29, ty_30, ty_31, ty_32, ty_33, ty_34, ty_35, ty_36, ty_37, ty_38, ty_39, ty_40, ty_41, ty_42, ty_43, ty_44, ty_45, ty_46, ty_47, ty_48, ty_49, ty_50, ty_51, ty_52, ty_53, ty_54, ty_55, ty_56, ty_57, ty_58, ty_59, ty_60, ty_61, ty_62, ty_63, ty_64, ty_65, ty_66, ty_67, ty_68, ty_69, ty_70, ty_71, ty_72, ty_73, ty_74, ty_75, ty_76, ty_77, ty_78, pl_3_7, pl_3_12, pl_3_14, pl_3_15, pl_3_17, pl_4_12, pl_5_7, pl_6_16, pl_6_21, pl_7_3, pl_7_7, pl_8_5, pl_12_3, pl_13_1, pl_13_11, pl_15_6, pl_16_8, pl_17_4, pl_19_5, pl_19_12, pl_24_5, pl_24_12, pl_26_1, pl_27_2, pl_28_3, pl_30_3, pl_33_2, lp, eMty, eMpl, g1, g2, g5, g6, g7, hil, hbl, hlt', hw, hlb, k9, k10, k23, hvl, e1, e2, e3, bytesOf] at hx
                rw [hR] at hx
                exact fin (.ch (h.nx + 1)) _ _ hx hok1 (by simp [T.get_set_ite, g1]) (by simp [T.get_set_ite, g2]) (by simp [T.get_set_ite, g5]) (by simp [T.get_set_ite]) (by simp [T.get_set_ite]) (by simp [T.get_set_ite, hn0, hn1, z0]) (by simp) (.inr ⟨_, rfl, by simp [T.get_set_ite], by simp⟩) (by simp)
              · have hid0 : id ≠ 0 := fun e => w0 (by rw [e])
                have hid0' : 0 ≠ id := Ne.symm hid0
                have hidn : id ≠ h.nx := by omega
                simp [b6_0, loopOf, Try.f6, loops, cdL_seq, cdL_region, cdL_drawn, cdL_cond, cdL_block, cdL_skip, cdL_label, cdL_exit, cdL_ret, endL, evSeq, evOne, evAct, evOp, opKind, evPure, evRead, evNew, evWrite, evSlice, natOf, optVal, readAt, AV.cells, wantedA, putTm, val, allVals, evBin, evInt, evStr, evAppend, denseFrom, sizesAre, onesIn, evPlan, recheck, AV.beq_refl, H.new, H.put, fillF, fillAt, allOne, AV.one, setArgs, evRes, resOf, ofVal, ofVal0, blt_dec, ble_dec, beq_dec, T.get_set_ite, T.get_e, isShift, ikBeq, ty_0, ty_1, ty_2, ty_3, ty_4, ty_5, ty_6, ty_7, ty_8, ty_9, ty_10, ty_11, ty_12, ty_13, ty_14, ty_15, ty_16, ty_17, ty_18, ty_19, ty_20, ty_21, ty_22, ty_23, ty_24, ty_25, ty_26, ty_27, ty_28, ty_29, ty_30, ty_31, ty_32, ty_33, ty_34, ty_35, ty_36, ty_37, ty_38, ty_39, ty_40, ty_41, ty_42, ty_43, ty_44, ty_45, ty_46, ty_47, ty_48, ty_49, ty_50, ty_51, ty_52, ty_53, ty_54, ty_55, ty_56, ty_57, ty_58, ty_59, ty_60, ty_61, ty_62, ty_63, ty_64, ty_65, ty_66, ty_67, ty_68, ty_69, ty_70, ty_71, ty_72, ty_73, ty_74, ty_75, ty_76, ty_77, ty_78, pl_3_7, pl_3_12, pl_3_14, pl_3_15, pl_3_17, pl_4_12, pl_5_7, pl_6_16, pl_6_21, pl_7_3, pl_7_7, pl_8_5, pl_12_3, pl_13_1, pl_13_11, pl_15_6, pl_16_8, pl_17_4, pl_19_5, pl_19_12, pl_24_5, pl_24_12, pl_26_1, pl_27_2, pl_28_3, pl_30_3, pl_33_2, lp, eMty, eMpl, g1, g2, g5, g6, g7, hil, hbl, hlt', hw, hlb, k9, k10, k23, hvl, e1, e2, e3, bytesOf, hg, hidn, hss, hby] at hx
                rw [hR] at hx
                exact fin (.ch id) _ _ hx hok1 (by simp [T.get_set_ite, g1]) (by simp [T.get_set_ite, g2]) (by simp [T.get_set_ite, g5]) (by simp [T.get_set_ite]) (by simp [T.get_set_ite]) (by simp [T.get_set_ite, hn0, hid0', z0]) (by simp) (.inr ⟨_, rfl, by simp [T.get_set_ite], by simp; omega⟩) (by simp [hid0])
    by_cases hib : i < bs.length
    · have hat : (Ty.avs bs)[i]? = some v.av := avs_get (by
        rw [hv]; unfold tyAt
        rw [List.getElem?_eq_getElem hib]; rfl)
      rw [hva] at hat
      exact go .no (.inl rfl) (.inl ⟨rfl, hat, ltI_t hib⟩)
    · have hve : v = .mk intS 0 [] := by
        rw [hv]; unfold tyAt
        rw [List.getElem?_eq_none (by omega)]; rfl
      rw [hve] at hva
      simp [Ty.av, Ty.avs] at hva
      exact go .full (.inr rfl) (.inr ⟨rfl, hva.1.symm, hva.2.1.symm, hva.2.2, ltI_f (by omega)⟩)
theorem of_var {sd : Sd} {n : Int} {u : Ty} (hl : look sd n = some u) (hg : gndF u = true) : ∃ f, ofF f sd (.mk varS n []) = some u := by
  have hvv : natsBeq varS varS = true := natsBeq_iff.2 rfl
  obtain ⟨uo, un, uk⟩ := u
  have hg' := hg
  simp only [gndF, Bool.and_eq_true, Bool.not_eq_true'] at hg'
  refine ⟨dep (.mk uo un uk) + 3, ?_⟩
  have h1 : headF (dep (.mk uo un uk) + 2) sd (.mk varS n []) = some (.mk uo un uk) := by
    show headF ((dep (.mk uo un uk) + 1) + 1) sd (.mk varS n []) = _
    rw [headF, hvv, cond_true, hl]
    exact headF_nv hg'.1
  have h2 : headF (dep (.mk uo un uk) + 2) sd (.mk uo un uk) = some (.mk uo un uk) := headF_nv hg'.1
  have e : ofF (dep (.mk uo un uk) + 3) sd (.mk varS n []) = ofF (dep (.mk uo un uk) + 3) sd (.mk uo un uk) := by
    show ofF ((dep (.mk uo un uk) + 2) + 1) sd _ = ofF ((dep (.mk uo un uk) + 2) + 1) sd _
    rw [ofF, ofF, h1, h2]
  rw [e]
  exact of_gnd _ _ sd hg (by omega)
theorem loop6_1 {L : List Int} {U : List Ty} {els : List AV} {w : Own} {s m : Nat} {nx : Int} {sd : Sd} (hL : L.length ≤ 1000000) (hlu : U.length = L.length) (hww : AV.wks 0 els (Ty.avs U)) (hsg : goodS sd) (hfU : fits U)
    (hof : ∀ (i : Nat) n u, L[i]? = some n → U[i]? = some u → ∃ f, ofF f sd (.mk varS n []) = some u) :
    ∀ (l : List Int) (i : Nat) {tm : Tm} {h : H} {x : Option (Ex × Tm × H)}, cdL envM 6 102 (.loop b6_1) tm h = x → l = L.drop i → i ≤ L.length → PSub h s m nx sd →
    tm.get 5 = some (.sl .no (ints L)) → tm.get 6 = some (.sl w els) → tm.get 10 = some (.ptr (some (s, 0))) → tm.get 11 = some (.int .i64 ↑i) → ∃ tm', x = some (.exit 2, tm', h)
  | [], i, tm, h, x, hx, hd, hi, hp, g5, g6, g10, g11 => by
    have hlen := dnil hd hi
    have hil : (ints L).length = i := by rw [ints_len]; exact hlen
    obtain ⟨R, hR, hx⟩ := loop_step hx
    simp [b6_1, loopOf, Try.f6, loops, cdL_seq, cdL_region, cdL_drawn, cdL_cond, cdL_block, cdL_skip, cdL_label, cdL_exit, cdL_ret, endL, evSeq, evOne, evAct, evOp, opKind, evPure, evRead, evNew, evWrite, evSlice, natOf, optVal, readAt, AV.cells, wantedA, putTm, val, allVals, evBin, evInt, evStr, evAppend, denseFrom, sizesAre, onesIn, evPlan, recheck, AV.beq_refl, H.new, H.put, fillF, fillAt, allOne, AV.one, setArgs, evRes, resOf, ofVal, ofVal0, blt_dec, ble_dec, beq_dec, T.get_set_ite, T.get_e, isShift, ikBeq, ty_0, ty_1, ty_2, ty_3, ty_4, ty_5, ty_6, ty_7, ty_8, ty_9, ty_10, ty_11, ty_12, ty_13, ty_14, ty_15, ty_16, ty_17, ty_18, ty_19, ty_20, ty_21, ty_22, ty_23, ty_24, ty_25, ty_26, ty_27, ty_28, ty_29, ty_30, ty_31, ty_32, ty_33, ty_34, ty_35, ty_36, ty_37, ty_38, ty_39, ty_40, ty_41, ty_42, ty_43, ty_44, ty_45, ty_46, ty_47, ty_48, ty_49, ty_50, ty_51, ty_52, ty_53, ty_54, ty_55, ty_56, ty_57, ty_58, ty_59, ty_60, ty_61, ty_62, ty_63, ty_64, ty_65, ty_66, ty_67, ty_68, ty_69, ty_70, ty_71, ty_72, ty_73, ty_74, ty_75, ty_76, ty_77, ty_78, pl_3_7, pl_3_12, pl_3_14, pl_3_15, pl_3_17, pl_4_12, pl_5_7, pl_6_16, pl_6_21, pl_7_3, pl_7_7, pl_8_5, pl_12_3, pl_13_1, pl_13_11, pl_15_6, pl_16_8, pl_17_4, pl_19_5, pl_19_12, pl_24_5, pl_24_12, pl_26_1, pl_27_2, pl_28_3, pl_30_3, pl_33_2, lp, eMty, eMpl, g5, g6, g10, g11, hil, ltI_f] at hx
    exact ⟨_, hx.symm⟩
  | n :: l, i, tm, h, x, hx, hd, hi, hp, g5, g6, g10, g11 => by
    obtain ⟨hlt, hc, hd'⟩ := dcons hd
    have hil := ints_len L
    have hic : (ints L)[i]? = some (.int .i64 n) := by unfold ints; rw [List.getElem?_map, hc]; rfl
    obtain ⟨u, hu⟩ : ∃ u, U[i]? = some u := ⟨_, List.getElem?_eq_getElem (by omega)⟩
    obtain ⟨y, hy⟩ : ∃ y, els[i]? = some y := ⟨_, List.getElem?_eq_getElem (by rw [(wks_iff.1 hww).1, avs_len]; omega)⟩
    have hyw := (wks_iff.1 hww).2 i y u.av hy (avs_get hu)
    obtain ⟨f, hf⟩ := hof i n u hc hu
    obtain ⟨u0, u1, u2, hua⟩ := av_cells u
    have hfu := fits_mem.1 hfU u (List.mem_of_getElem? hu)
    obtain ⟨m', v2, rfl⟩ : ∃ m' v2, y = .agg [.str u0, .int .i64 u1, .sl m' v2] := by
      rw [hua] at hyw
      cases y with
      | ptr a => cases a <;> simp [AV.wk] at hyw
      | map a => cases a <;> simp [AV.wk] at hyw
      | agg cs =>
        rw [wk_agg] at hyw
        match cs, hyw with
        | [c0, c1, c2], hyw =>
          simp only [wks_cons] at hyw
          obtain ⟨q1, q2, q3, _⟩ := hyw
          have e0 : c0 = .str u0 := by
            cases c0 with
            | ptr a => cases a <;> simp [AV.wk] at q1
            | map a => cases a <;> simp [AV.wk] at q1
            | str s => simp [AV.wk] at q1; rw [q1]
            | _ => simp [AV.wk] at q1
          have e1 : c1 = .int .i64 u1 := by
            cases c1 with
            | ptr a => cases a <;> simp [AV.wk] at q2
            | map a => cases a <;> simp [AV.wk] at q2
            | int k z => simp [AV.wk] at q2; rw [q2.1, q2.2]
            | _ => simp [AV.wk] at q2
          cases c2 with
          | ptr a => cases a <;> simp [AV.wk] at q3
          | map a => cases a <;> simp [AV.wk] at q3
          | sl o l => exact ⟨o, l, by rw [e0, e1]⟩
          | _ => simp [AV.wk] at q3
        | [], hyw => exact absurd (wks_iff.1 hyw).1 (by simp)
        | [_], hyw => exact absurd (wks_iff.1 hyw).1 (by simp)
        | [_, _], hyw => exact absurd (wks_iff.1 hyw).1 (by simp)
        | _ :: _ :: _ :: _ :: _, hyw => exact absurd (wks_iff.1 hyw).1 (by simp)
      | _ => simp [AV.wk] at hyw
    obtain ⟨R, hR, hx⟩ := loop_step hx
    have hlt' := ltI_t hlt
    have hw := wr_succ (i := i) (by omega)
    have k21 := fun h => c21 (E := envM) (by kernel_rfl) n h
    have k16 := c16 (E := envM) (by kernel_rfl) (Ty.av_bare 0 (.mk varS n [])) (by simp [good, goods]) hp hsg hf
    have k15 := cM15 (Ty.av_bare 0 u) hyw hfu hfu h
    rw [sameF_iff.2 rfl] at k15
    rw [hua] at k16 k15
    simp only [Ty.av, Ty.avs] at k21 k16
    simp [b6_1, loopOf, Try.f6, loops, cdL_seq, cdL_region, cdL_drawn, cdL_cond, cdL_block, cdL_skip, cdL_label, cdL_exit, cdL_ret, endL, evSeq, evOne, evAct, evOp, opKind, evPure, evRead, evNew, evWrite, evSlice, natOf, optVal, readAt, AV.cells, wantedA, putTm, val, allVals, evBin, evInt, evStr, evAppend, denseFrom, sizesAre, onesIn, evPlan, recheck, AV.beq_refl, H.new, H.put, fillF, fillAt, allOne, AV.one, setArgs, evRes, resOf, ofVal, ofVal0, blt_dec, ble_dec, beq_dec, T.get_set_ite, T.get_e, isShift, ikBeq, ty_0, ty_1, ty_2, ty_3, ty_4, ty_5, ty_6, ty_7, ty_8, ty_9, ty_10, ty_11, ty_12, ty_13, ty_14, ty_15, ty_16, ty_17, ty_18, ty_19, ty_20, ty_21, ty_22, ty_23, ty_24, ty_25, ty_26, ty_27, ty_28, ty_29, ty_30, ty_31, ty_32, ty_33, ty_34, ty_35, ty_36, ty_37, ty_38, ty_39, ty_40, ty_41, ty_42, ty_43, ty_44, ty_45, ty_46, ty_47, ty_48, ty_49, ty_50, ty_51, ty_52, ty_53, ty_54, ty_55, ty_56, ty_57, ty_58, ty_59, ty_60, ty_61, ty_62, ty_63, ty_64, ty_65, ty_66, ty_67, ty_68, ty_69, ty_70, ty_71, ty_72, ty_73, ty_74, ty_75, ty_76, ty_77, ty_78, pl_3_7, pl_3_12, pl_3_14, pl_3_15, pl_3_17, pl_4_12, pl_5_7, pl_6_16, pl_6_21, pl_7_3, pl_7_7, pl_8_5, pl_12_3, pl_13_1, pl_13_11, pl_15_6, pl_16_8, pl_17_4, pl_19_5, pl_19_12, pl_24_5, pl_24_12, pl_26_1, pl_27_2, pl_28_3, pl_30_3, pl_33_2, lp, eMty, eMpl, g5, g6, g10, g11, hil, hlt', hic, hy, hw, k21, k16, k15] at hx
    rw [hR] at hx
    exact loop6_1 (w := w) (s := s) (m := m) (nx := nx) (sd := sd) hL hlu hww hsg hfU hof l (i + 1) hx hd' hlt hp (by simp [T.get_set_ite, g5]) (by simp [T.get_set_ite, g6]) (by simp [T.get_set_ite, g10]) (by simp [T.get_set_ite])
end Go.Proofs.Ytiifjjcoepgobaa.Env
