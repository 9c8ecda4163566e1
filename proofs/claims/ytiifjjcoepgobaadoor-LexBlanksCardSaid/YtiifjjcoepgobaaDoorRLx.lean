/- All tokens of a text as one function; both programs' loops come to it. -/
import Derived.Test.YtiifjjcoepgobaaDoorROne
set_option autoImplicit false
set_option maxRecDepth 100000
set_option linter.unusedSimpArgs false
set_option linter.unusedVariables false
namespace Go.Proofs.YtiifjjcoepgobaaDoor.Env
open Go.Ev

theorem cd_of {E : Env} {f n k1 k2 : Nat} {c : Code} {tm : Tm} {h : H} {r : Ex × Tm × H} (he : evCode (evFn E k1) E f n k2 c tm h = some r) : cdL E f n c tm h = some r :=
  (cdL_iff E f n tm h).2 ⟨max k1 k2, up E f n (Nat.le_max_left ..) he _ (Nat.le_max_right ..)⟩

/-! ### One token -/
def tokish (t : AV) : Prop := ∃ (x1 : Int) (x2 : List Nat) (x3 x4 : Int), t = .agg [.int .i64 x1, .str x2, .int .i64 x3, .int .i64 x4]
def tokAt (s : List Nat) (i : Nat) : Option (AV × Nat) := match tokRes s i with
  | .tup [t, .int .i64 (.ofNat n), .bool true] => some (t, n)
  | _ => none
def lx : Nat → List Nat → Nat → List AV → List AV × Option Nat
  | 0, _, _, l => (l, none)
  | f + 1, s, i, l => match s[i]? with
    | none => (l, none)
    | some c => bif isBlank c then lx f s (i + 1) l else match tokAt s i with
      | some (t, n) => lx f s (i + n) (l ++ [t])
      | none => ([], some i)
theorem tokRes_cases {s : List Nat} {i c : Nat} (hc : s[i]? = some c) :
    (∃ (x1 : Int) (x2 : List Nat) (x3 x4 : Int) (n : Nat), tokRes s i = .tup [.agg [.int .i64 x1, .str x2, .int .i64 x3, .int .i64 x4], .int .i64 ↑n, .bool true] ∧ 0 < n ∧ i + n ≤ s.length ∧ tokAt s i = some (.agg [.int .i64 x1, .str x2, .int .i64 x3, .int .i64 x4], n)) ∨
    (∃ (x1 : Int) (x2 : List Nat) (x3 x4 n : Int), tokRes s i = .tup [.agg [.int .i64 x1, .str x2, .int .i64 x3, .int .i64 x4], .int .i64 n, .bool false] ∧ tokAt s i = none) := by
  have ht : isTok (tokRes s i) := by
    unfold tokRes
    rw [hc]
    simp only
    cases pLetter ↑c with
    | true => exact nameRes_tok s i
    | false =>
      cases pDigit ↑c with
      | true => exact numRes_tok s i
      | false =>
        cases intBeq ↑c 34 with
        | true => exact textRes_tok s i
        | false => exact signRes_tok s i
  obtain ⟨x1, x2, x3, x4, n, b, e⟩ := ht
  cases b with
  | true =>
    obtain ⟨m, rfl, h1, h2⟩ := tok_len hc e
    exact .inl ⟨x1, x2, x3, x4, m, e, h1, h2, by unfold tokAt; rw [e]⟩
  | false => exact .inr ⟨x1, x2, x3, x4, n, e, by unfold tokAt; rw [e]; cases n <;> rfl⟩

/-! ### The program's loop -/
def Good (l : List AV) : Prop := ∀ t ∈ l, tokish t
theorem good_sizes : ∀ {l : List AV}, Good l → sizesAre 4 l = true
  | [], _ => rfl
  | t :: l, h => by
    obtain ⟨x1, x2, x3, x4, rfl⟩ := h t (List.mem_cons_self ..)
    simp [sizesAre, AV.cells, good_sizes (fun t ht => h t (List.mem_cons_of_mem _ ht)), beq_dec]
theorem good_add {l : List AV} (h : Good l) {t : AV} (ht : tokish t) : Good (l ++ [t]) := by
  intro u hu
  rcases List.mem_append.1 hu with hu | hu
  · exact h u hu
  · rw [List.mem_singleton.1 hu]; exact ht
theorem lp_n {E : Env} {f n : Nat} {b : Code} {tm tm' : Tm} {h h' : H} (hb : cdL E f n b tm h = some (.normal, tm', h')) : cdL E f n (.loop b) tm h = cdL E f n (.loop b) tm' h' := by
  rw [cdL_loop, hb]
theorem lp_e {E : Env} {f n j : Nat} {b : Code} {tm tm' : Tm} {h h' : H} (hb : cdL E f n b tm h = some (.exit j, tm', h')) : cdL E f n (.loop b) tm h = some (.exit j, tm', h') := by
  rw [cdL_loop, hb]
theorem lp_r {E : Env} {f n : Nat} {b : Code} {tm tm' : Tm} {h h' : H} (hb : cdL E f n b tm h = some (.ret, tm', h')) : cdL E f n (.loop b) tm h = some (.ret, tm', h') := by
  rw [cdL_loop, hb]
theorem loop8 {s : List Nat} (hl : s.length ≤ 100000) : ∀ (f i : Nat) (o : Own) (l : List AV) {tm : Tm} {h : H}, s.length - i < f → i ≤ s.length → R8 s i o l tm → Row h o l → l.length ≤ i → Good l →
    match lx f s i l with
    | (l', none) => ∃ tm' h' o', cdL env7 8 56 (.loop b8) tm h = some (.exit 0, tm', h') ∧ R8 s s.length o' l' tm' ∧ Row h' o' l' ∧ l'.length ≤ s.length ∧ Good l'
    | (l', some j) => ∃ tm' h', cdL env7 8 56 (.loop b8) tm h = some (.ret, tm', h') ∧ tm'.get 2 = some (.sl .full []) ∧ tm'.get 3 = some (.int .i64 ↑j) ∧ tm'.get 4 = some (.int .i64 2)
  | 0, i, o, l, tm, h, hf, _, _, _, _, _ => by omega
  | f + 1, i, o, l, tm, h, hf, hi, R, hr, hli, hg => by
    simp only [lx]
    cases hc : s[i]? with
    | none =>
      have hle : s.length ≤ i := List.getElem?_eq_none_iff.1 hc
      have : i = s.length := by omega
      subst this
      obtain ⟨tm', h1, h2⟩ := stop8 (evFn env7 1) s s.length o l tm h 0 R (Nat.le_refl _)
      exact ⟨tm', h, o, lp_e (cd_of h1), h2, hr, hli, hg⟩
    | some c =>
      have hlt := getElem?_lt hc
      simp only
      cases hb : isBlank c with
      | true =>
        obtain ⟨tm1, h1, h2⟩ := blank8 (evFn env7 1) s i o l tm h 0 c R (by omega) hc hb
        have := loop8 hl f (i + 1) o l (by omega) hlt h2 hr (by omega) hg
        rw [lp_n (cd_of h1)]
        exact this
      | false =>
        rcases tokRes_cases hc with ⟨x1, x2, x3, x4, n, e, hn, hin, ht⟩ | ⟨x1, x2, x3, x4, n, e, ht⟩
        · rw [ht]
          obtain ⟨tm1, h1, o1, hq, h2, h3⟩ := tok8 0 s i o l tm h 0 c R (by omega) hc hb x1 x2 x3 x4 n e hin hr (by omega) (good_sizes hg)
          have := loop8 hl f (i + n) o1 _ (by omega) hin h2 h3 (by simp; omega) (good_add hg ⟨x1, x2, x3, x4, rfl⟩)
          rw [lp_n (cd_of hq)]
          exact this
        · rw [ht]
          obtain ⟨tm1, h1, hq, g2, g3, g4⟩ := err8 0 s i o l tm h 0 c R (by omega) hc hb x1 x2 x3 x4 n e
          exact ⟨tm1, h1, lp_r (cd_of hq), g2, g3, g4⟩
def endTok (s : List Nat) : AV := tokA 5 [] 0 ↑s.length
def toks (s : List Nat) : AV := bif ltI 2000 ↑s.length then .tup [.sl .full [], .int .i64 0, .int .i64 7] else match lx (s.length + 1) s 0 [] with
  | (l, none) => .tup [.sl .no (l ++ [endTok s]), .int .i64 ↑s.length, .int .i64 0]
  | (_, some j) => .tup [.sl .full [], .int .i64 ↑j, .int .i64 2]
theorem good_pure : ∀ {l : List AV}, Good l → AV.pures l = true ∧ AV.forgets l = l
  | [], _ => ⟨rfl, rfl⟩
  | t :: l, h => by
    obtain ⟨x1, x2, x3, x4, rfl⟩ := h t (List.mem_cons_self ..)
    obtain ⟨h1, h2⟩ := good_pure (l := l) (fun t ht => h t (List.mem_cons_of_mem _ ht))
    exact ⟨by simp [AV.pures, AV.pure, h1], by simp [AV.forgets, AV.forget, h2]⟩
theorem body8 : Tryd.f8.body = some (.seq (codeAt Tryd.f8 [0]) (.seq (codeAt Tryd.f8 [1, 0]) (.seq (.block 0 (.loop b8)) (codeAt Tryd.f8 [1, 1, 1])))) := rfl
theorem lx_good {s : List Nat} : ∀ (f i : Nat) (l l' : List AV), Good l → lx f s i l = (l', none) → Good l'
  | 0, i, l, l', hg, h => by simp only [lx, Prod.mk.injEq] at h; rw [← h.1]; exact hg
  | f + 1, i, l, l', hg, h => by
    simp only [lx] at h
    cases hc : s[i]? with
    | none => rw [hc] at h; simp only [Prod.mk.injEq] at h; rw [← h.1]; exact hg
    | some c =>
      rw [hc] at h
      simp only at h
      cases hb : isBlank c with
      | true => rw [hb] at h; exact lx_good f _ _ _ hg h
      | false =>
        rw [hb] at h
        simp only [cond_false] at h
        rcases tokRes_cases hc with ⟨x1, x2, x3, x4, n, e, hn, hin, ht⟩ | ⟨x1, x2, x3, x4, n, e, ht⟩
        · rw [ht] at h; exact lx_good f _ _ _ (good_add hg ⟨x1, x2, x3, x4, rfl⟩) h
        · rw [ht] at h; simp at h
theorem loop8x {s : List Nat} (hl : s.length ≤ 100000) (f i : Nat) (o : Own) (l : List AV) {tm : Tm} {h : H} {x : Option (Ex × Tm × H)} (hx : cdL env7 8 56 (.loop b8) tm h = x) (hf : s.length - i < f) (hi : i ≤ s.length) (R : R8 s i o l tm) (hr : Row h o l) (hli : l.length ≤ i) (hg : Good l) :
    match lx f s i l with
    | (l', none) => ∃ tm' h' o', x = some (.exit 0, tm', h') ∧ R8 s s.length o' l' tm' ∧ Row h' o' l' ∧ l'.length ≤ s.length ∧ Good l'
    | (l', some j) => ∃ tm' h', x = some (.ret, tm', h') ∧ tm'.get 2 = some (.sl .full []) ∧ tm'.get 3 = some (.int .i64 ↑j) ∧ tm'.get 4 = some (.int .i64 2) := by
  subst hx
  exact loop8 hl f i o l hf hi R hr hli hg
theorem pures_append : ∀ (a b : List AV), AV.pures (a ++ b) = (AV.pures a && AV.pures b)
  | [], b => by simp [AV.pures]
  | x :: a, b => by simp [AV.pures, pures_append a b, Bool.and_assoc]
theorem toks_run (s : List Nat) : ∃ v' h1, evL env7 8 [.str s] ⟨.e, 0⟩ = some (v', h1) ∧ v'.pure = true ∧ v'.forget = toks s := by
  rw [evL_fn env7 (by kernel_rfl) (by kernel_rfl) body8 _ _ rfl]
  simp only [codeAt, sub, Tryd.f8]
  unfold toks
  cases hb : ltI 2000 ↑s.length with
  | true =>
    simp [cdL_seq, cdL_region, cdL_drawn, cdL_cond, cdL_block, cdL_skip, cdL_label, cdL_exit, cdL_ret, endL, evSeq, evOne, evAct, evOp, opKind, evPure, evRead, evNew, evWrite, evSlice, natOf, optVal, readAt, AV.cells, wantedA, putTm, val, allVals, evBin, evInt, evStr, evAppend, denseFrom, sizesAre, onesIn, evPlan, recheck, AV.beq_refl, H.new, H.put, fillF, fillAt, allOne, AV.one, setArgs, evRes, resOf, ofVal, ofVal0, blt_dec, ble_dec, beq_dec, T.get_set_ite, T.get_e, isShift, ikBeq, ty_0, ty_1, ty_2, ty_3, ty_4, ty_5, ty_6, ty_7, ty_8, ty_9, ty_10, ty_11, ty_12, ty_13, ty_14, ty_15, ty_16, ty_17, ty_18, ty_19, ty_20, ty_21, ty_22, ty_23, ty_24, ty_25, ty_26, ty_27, ty_28, ty_29, ty_30, ty_31, ty_32, ty_33, ty_34, ty_35, ty_36, ty_37, ty_38, ty_39, ty_40, ty_41, ty_42, ty_43, ty_44, ty_45, ty_46, ty_47, ty_48, ty_49, ty_50, ty_51, ty_52, ty_53, ty_54, ty_55, ty_56, ty_57, ty_58, ty_59, ty_60, ty_61, ty_62, ty_63, ty_64, ty_65, ty_66, ty_67, ty_68, ty_69, ty_70, ty_71, ty_72, ty_73, ty_74, ty_75, ty_76, ty_77, ty_78, ty_79, ty_80, ty_81, ty_82, ty_83, ty_84, ty_85, ty_86, ty_87, ty_88, ty_89, ty_90, pl_4_17, pl_7_6, pl_10_6, pl_15_6, pl_18_3, pl_28_5, pl_43_9, pl_43_18, pl_44_9, e7ty, e7pl, hb]
    exact ⟨rfl, rfl⟩
  | false =>
    have hle : s.length ≤ 2000 := by rw [show (2000 : Int) = ((2000 : Nat) : Int) from rfl, ltI_nat] at hb; simpa using hb
    simp [cdL_seq, cdL_region, cdL_drawn, cdL_cond, cdL_block, cdL_skip, cdL_label, cdL_exit, cdL_ret, endL, evSeq, evOne, evAct, evOp, opKind, evPure, evRead, evNew, evWrite, evSlice, natOf, optVal, readAt, AV.cells, wantedA, putTm, val, allVals, evBin, evInt, evStr, evAppend, denseFrom, sizesAre, onesIn, evPlan, recheck, AV.beq_refl, H.new, H.put, fillF, fillAt, allOne, AV.one, setArgs, evRes, resOf, ofVal, ofVal0, blt_dec, ble_dec, beq_dec, T.get_set_ite, T.get_e, isShift, ikBeq, ty_0, ty_1, ty_2, ty_3, ty_4, ty_5, ty_6, ty_7, ty_8, ty_9, ty_10, ty_11, ty_12, ty_13, ty_14, ty_15, ty_16, ty_17, ty_18, ty_19, ty_20, ty_21, ty_22, ty_23, ty_24, ty_25, ty_26, ty_27, ty_28, ty_29, ty_30, ty_31, ty_32, ty_33, ty_34, ty_35, ty_36, ty_37, ty_38, ty_39, ty_40, ty_41, ty_42, ty_43, ty_44, ty_45, ty_46, ty_47, ty_48, ty_49, ty_50, ty_51, ty_52, ty_53, ty_54, ty_55, ty_56, ty_57, ty_58, ty_59, ty_60, ty_61, ty_62, ty_63, ty_64, ty_65, ty_66, ty_67, ty_68, ty_69, ty_70, ty_71, ty_72, ty_73, ty_74, ty_75, ty_76, ty_77, ty_78, ty_79, ty_80, ty_81, ty_82, ty_83, ty_84, ty_85, ty_86, ty_87, ty_88, ty_89, ty_90, pl_4_17, pl_7_6, pl_10_6, pl_15_6, pl_18_3, pl_28_5, pl_43_9, pl_43_18, pl_44_9, e7ty, e7pl, hb]
    generalize hx : cdL env7 8 56 (.loop b8) _ _ = x
    have L := loop8x (s := s) (by omega) (s.length + 1) 0 .full [] hx (by omega) (Nat.zero_le _) ⟨by simp [T.get_set_ite], by simp [T.get_set_ite], by simp [T.get_set_ite]⟩ (.inl ⟨rfl, rfl⟩) (Nat.zero_le _) (fun t ht => by simp at ht)
    rcases hq : lx (s.length + 1) s 0 [] with ⟨l', _ | j⟩
    · rw [hq] at L
      obtain ⟨tm', h', o', rfl, ⟨g0, g2, g3⟩, hr, hll, hg⟩ := L
      have hgp := good_pure hg
      have hsz := good_sizes hg
      have hby : (l'.length + 1) * 40 ≤ 140737488355328 := by omega
      rcases hr with ⟨rfl, rfl⟩ | ⟨id, rfl, hch, hid⟩
      · simp [cdL_seq, cdL_region, cdL_drawn, cdL_cond, cdL_block, cdL_skip, cdL_label, cdL_exit, cdL_ret, endL, evSeq, evOne, evAct, evOp, opKind, evPure, evRead, evNew, evWrite, evSlice, natOf, optVal, readAt, AV.cells, wantedA, putTm, val, allVals, evBin, evInt, evStr, evAppend, denseFrom, sizesAre, onesIn, evPlan, recheck, AV.beq_refl, H.new, H.put, fillF, fillAt, allOne, AV.one, setArgs, evRes, resOf, ofVal, ofVal0, blt_dec, ble_dec, beq_dec, T.get_set_ite, T.get_e, isShift, ikBeq, ty_0, ty_1, ty_2, ty_3, ty_4, ty_5, ty_6, ty_7, ty_8, ty_9, ty_10, ty_11, ty_12, ty_13, ty_14, ty_15, ty_16, ty_17, ty_18, ty_19, ty_20, ty_21, ty_22, ty_23, ty_24, ty_25, ty_26, ty_27, ty_28, ty_29, ty_30, ty_31, ty_32, ty_33, ty_34, ty_35, ty_36, ty_37, ty_38, ty_39, ty_40, ty_41, ty_42, ty_43, ty_44, ty_45, ty_46, ty_47, ty_48, ty_49, ty_50, ty_51, ty_52, ty_53, ty_54, ty_55, ty_56, ty_57, ty_58, ty_59, ty_60, ty_61, ty_62, ty_63, ty_64, ty_65, ty_66, ty_67, ty_68, ty_69, ty_70, ty_71, ty_72, ty_73, ty_74, ty_75, ty_76, ty_77, ty_78, ty_79, ty_80, ty_81, ty_82, ty_83, ty_84, ty_85, ty_86, ty_87, ty_88, ty_89, ty_90, pl_4_17, pl_7_6, pl_10_6, pl_15_6, pl_18_3, pl_28_5, pl_43_9, pl_43_18, pl_44_9, e7ty, e7pl, g0, g2, g3]
        exact ⟨rfl, rfl⟩
      · simp [cdL_seq, cdL_region, cdL_drawn, cdL_cond, cdL_block, cdL_skip, cdL_label, cdL_exit, cdL_ret, endL, evSeq, evOne, evAct, evOp, opKind, evPure, evRead, evNew, evWrite, evSlice, natOf, optVal, readAt, AV.cells, wantedA, putTm, val, allVals, evBin, evInt, evStr, evAppend, denseFrom, sizesAre, onesIn, evPlan, recheck, AV.beq_refl, H.new, H.put, fillF, fillAt, allOne, AV.one, setArgs, evRes, resOf, ofVal, ofVal0, blt_dec, ble_dec, beq_dec, T.get_set_ite, T.get_e, isShift, ikBeq, ty_0, ty_1, ty_2, ty_3, ty_4, ty_5, ty_6, ty_7, ty_8, ty_9, ty_10, ty_11, ty_12, ty_13, ty_14, ty_15, ty_16, ty_17, ty_18, ty_19, ty_20, ty_21, ty_22, ty_23, ty_24, ty_25, ty_26, ty_27, ty_28, ty_29, ty_30, ty_31, ty_32, ty_33, ty_34, ty_35, ty_36, ty_37, ty_38, ty_39, ty_40, ty_41, ty_42, ty_43, ty_44, ty_45, ty_46, ty_47, ty_48, ty_49, ty_50, ty_51, ty_52, ty_53, ty_54, ty_55, ty_56, ty_57, ty_58, ty_59, ty_60, ty_61, ty_62, ty_63, ty_64, ty_65, ty_66, ty_67, ty_68, ty_69, ty_70, ty_71, ty_72, ty_73, ty_74, ty_75, ty_76, ty_77, ty_78, ty_79, ty_80, ty_81, ty_82, ty_83, ty_84, ty_85, ty_86, ty_87, ty_88, ty_89, ty_90, pl_4_17, pl_7_6, pl_10_6, pl_15_6, pl_18_3, pl_28_5, pl_43_9, pl_43_18, pl_44_9, e7ty, e7pl, g0, g2, g3, hch, hsz, hby]
        have e1 : ∀ (a : List AV), AV.pures (l' ++ a) = AV.pures a := fun a => by rw [pures_append, hgp.1, Bool.true_and]
        have e2 : ∀ (a : List AV), AV.forgets (l' ++ a) = l' ++ AV.forgets a := fun a => by rw [forgets_map, List.map_append, ← forgets_map, ← forgets_map, hgp.2]
        simp [AV.pure, AV.pures, AV.forget, AV.forgets, e1, e2, endTok, tokA]
    · rw [hq] at L
      obtain ⟨tm', h', rfl, g2, g3, g4⟩ := L
      simp [cdL_seq, cdL_region, cdL_drawn, cdL_cond, cdL_block, cdL_skip, cdL_label, cdL_exit, cdL_ret, endL, evSeq, evOne, evAct, evOp, opKind, evPure, evRead, evNew, evWrite, evSlice, natOf, optVal, readAt, AV.cells, wantedA, putTm, val, allVals, evBin, evInt, evStr, evAppend, denseFrom, sizesAre, onesIn, evPlan, recheck, AV.beq_refl, H.new, H.put, fillF, fillAt, allOne, AV.one, setArgs, evRes, resOf, ofVal, ofVal0, blt_dec, ble_dec, beq_dec, T.get_set_ite, T.get_e, isShift, ikBeq, ty_0, ty_1, ty_2, ty_3, ty_4, ty_5, ty_6, ty_7, ty_8, ty_9, ty_10, ty_11, ty_12, ty_13, ty_14, ty_15, ty_16, ty_17, ty_18, ty_19, ty_20, ty_21, ty_22, ty_23, ty_24, ty_25, ty_26, ty_27, ty_28, ty_29, ty_30, ty_31, ty_32, ty_33, ty_34, ty_35, ty_36, ty_37, ty_38, ty_39, ty_40, ty_41, ty_42, ty_43, ty_44, ty_45, ty_46, ty_47, ty_48, ty_49, ty_50, ty_51, ty_52, ty_53, ty_54, ty_55, ty_56, ty_57, ty_58, ty_59, ty_60, ty_61, ty_62, ty_63, ty_64, ty_65, ty_66, ty_67, ty_68, ty_69, ty_70, ty_71, ty_72, ty_73, ty_74, ty_75, ty_76, ty_77, ty_78, ty_79, ty_80, ty_81, ty_82, ty_83, ty_84, ty_85, ty_86, ty_87, ty_88, ty_89, ty_90, pl_4_17, pl_7_6, pl_10_6, pl_15_6, pl_18_3, pl_28_5, pl_43_9, pl_43_18, pl_44_9, e7ty, e7pl, g2, g3, g4]
      exact ⟨rfl, rfl⟩
end Go.Proofs.YtiifjjcoepgobaaDoor.Env
