/- The reference's name, number, string; the token that stands there. -/
import Derived.Test.YtiifjjcoepgobaaDoorRText
set_option autoImplicit false
set_option maxRecDepth 100000
set_option linter.unusedSimpArgs false
set_option linter.unusedVariables false
namespace Go.Proofs.YtiifjjcoepgobaaDoor.Env
open Go.Ev

/-- A function of a text. -/
def lenOk (s : List Nat) : Bool := Nat.blt s.length 140737488355328
theorem lenOk_iff {s : List Nat} : lenOk s = true ↔ s.length < 140737488355328 := by simp [lenOk, blt_dec]
def pS (q : List Nat → Bool) (r : List Nat → AV) : List AV → Option AV
  | [.str s] => bif q s then some (r s) else none
  | _ => none
theorem pS_ok {E : Env} (hE : EnvOk Tryd.prog E) {f : Nat} {fn : Func} {q : List Nat → Bool} {r : List Nat → AV} (hfn : Tryd.prog.funcs[f]? = some fn) (hnm : (fn.name == "runtime.NumGoroutine") = false) (hb : fn.body.isNone = false)
    (hr : ∀ s, q s = true → (∃ h1, evL E f [.str s] ⟨.e, 0⟩ = some (r s, h1)) ∧ (r s).pure = true ∧ (r s).forget = r s) : PrimOk Tryd.prog f (primPure (pS q r)) := by
  refine pureL_ok hE hfn hnm hb fun args v hv => ?_
  unfold pS at hv
  split at hv
  · rename_i s
    cases hq : q s with
    | false => rw [hq] at hv; simp at hv
    | true =>
      rw [hq] at hv
      simp only [cond_true, Option.some.injEq] at hv
      subst hv
      obtain ⟨⟨h1, e⟩, h2, h3⟩ := hr s hq
      exact ⟨_, h1, e, h2, h3⟩
  · simp at hv
theorem pS_call {E : Env} {f : Nat} {q : List Nat → Bool} {r : List Nat → AV} (he : E.prim f = some (primPure (pS q r))) (h : H) (s : List Nat) (hq : q s = true) : evL E f [.str s] h = some (r s, h) := by
  rw [evL_prim E he]
  simp [primPure, AV.pures, AV.pure, AV.forgets, AV.forget, pS, hq]
def isW (v : List Nat) : Bool := wordsL.any (natsBeq · v)
noncomputable def env8 : Env := addPrim (addPrim (addPrim env7 36 (primPure (pS lenOk fun s => .bool (isW s)))) 37 (primPure (pS lenOk fun s => .bool (okT s)))) 28 (primPure (pS lenOk fun s => .str (sgn s)))
theorem env8_ok : EnvOk Tryd.prog env8 :=
  addPrim_ok (addPrim_ok (addPrim_ok env7_ok
    (pS_ok env7_ok Tryd.func36 (by kernel_rfl) (by kernel_rfl) fun s _ => ⟨word_run s, rfl, rfl⟩))
    (pS_ok env7_ok Tryd.func37 (by kernel_rfl) (by kernel_rfl) fun s hs => ⟨rtext_run s (by have := lenOk_iff.1 hs; omega), rfl, rfl⟩))
    (pS_ok env7_ok Tryd.func28 (by kernel_rfl) (by kernel_rfl) fun s _ => ⟨rsign_run s, rfl, rfl⟩)
theorem e8ty : env8.ty = env.ty := rfl
theorem e8pl : env8.plan = env.plan := rfl
theorem e8_36 (h : H) (s : List Nat) (hs : lenOk s = true) : evL env8 36 [.str s] h = some (.bool (isW s), h) := pS_call (r := fun s => .bool (isW s)) (by kernel_rfl) h s hs
theorem e8_37 (h : H) (s : List Nat) (hs : lenOk s = true) : evL env8 37 [.str s] h = some (.bool (okT s), h) := pS_call (r := fun s => .bool (okT s)) (by kernel_rfl) h s hs
theorem e8_28 (h : H) (s : List Nat) (hs : lenOk s = true) : evL env8 28 [.str s] h = some (.str (sgn s), h) := pS_call (r := fun s => .str (sgn s)) (by kernel_rfl) h s hs
theorem e8_23 (c : Int) (h : H) : evL env8 23 [.int .u8 c] h = some (.bool (pLetter c), h) := by
  rw [evL_prim env8 (f := 23) (p := primPure (pI pLetter)) (by kernel_rfl)]; rfl
theorem e8_25 (c : Int) (h : H) : evL env8 25 [.int .u8 c] h = some (.bool (pDigit c), h) := by
  rw [evL_prim env8 (f := 25) (p := primPure (pI pDigit)) (by kernel_rfl)]; rfl

/-! ### A name -/
noncomputable def b24_0 : Code := loopOf Tryd.f24 0
theorem body24 : Tryd.f24.body = some (.seq (codeAt Tryd.f24 [0]) (.seq (codeAt Tryd.f24 [1, 0]) (.seq (.block 0 (.loop b24_0)) (codeAt Tryd.f24 [1, 1, 1])))) := rfl
theorem loop24 {s : List Nat} (hl : s.length < 4611686018427387904) : ∀ (l : List Nat) (i : Nat) {tm : Tm} {h : H} {x : Option (Ex × Tm × H)}, cdL env8 24 52 (.loop b24_0) tm h = x → l = s.drop i → i ≤ s.length →
    tm.get 0 = some (.str s) → tm.get 4 = some (.int .i64 ↑i) → ∃ tm', x = some (.exit 0, tm', h) ∧ tm'.get 0 = some (.str s) ∧ tm'.get 2 = tm.get 2 ∧ tm'.get 4 = some (.int .i64 ↑(i + cnt pMore l))
  | [], i, tm, h, x, hx, hd, hi, h0, h4 => by
    have hlen := dnil hd hi
    obtain ⟨R, hR, hx⟩ := loop_step hx
    simp [b24_0, loopOf, Tryd.f24, loops, cdL_seq, cdL_region, cdL_drawn, cdL_cond, cdL_block, cdL_skip, cdL_label, cdL_exit, cdL_ret, endL, evSeq, evOne, evAct, evOp, opKind, evPure, evRead, evNew, evWrite, evSlice, natOf, optVal, readAt, AV.cells, wantedA, putTm, val, allVals, evBin, evInt, evStr, evAppend, denseFrom, sizesAre, onesIn, evPlan, recheck, AV.beq_refl, H.new, H.put, fillF, fillAt, allOne, AV.one, setArgs, evRes, resOf, ofVal, ofVal0, blt_dec, ble_dec, beq_dec, T.get_set_ite, T.get_e, isShift, ikBeq, ty_0, ty_1, ty_2, ty_3, ty_4, ty_5, ty_6, ty_7, ty_8, ty_9, ty_10, ty_11, ty_12, ty_13, ty_14, ty_15, ty_16, ty_17, ty_18, ty_19, ty_20, ty_21, ty_22, ty_23, ty_24, ty_25, ty_26, ty_27, ty_28, ty_29, ty_30, ty_31, ty_32, ty_33, ty_34, ty_35, ty_36, ty_37, ty_38, ty_39, ty_40, ty_41, ty_42, ty_43, ty_44, ty_45, ty_46, ty_47, ty_48, ty_49, ty_50, ty_51, ty_52, ty_53, ty_54, ty_55, ty_56, ty_57, ty_58, ty_59, ty_60, ty_61, ty_62, ty_63, ty_64, ty_65, ty_66, ty_67, ty_68, ty_69, ty_70, ty_71, ty_72, ty_73, ty_74, ty_75, ty_76, ty_77, ty_78, ty_79, ty_80, ty_81, ty_82, ty_83, ty_84, ty_85, ty_86, ty_87, ty_88, ty_89, ty_90, pl_4_17, pl_7_6, pl_10_6, pl_15_6, pl_18_3, pl_28_5, pl_43_9, pl_43_18, pl_44_9, lp, e8ty, e8pl, h0, h4, hlen, ltI_f] at hx
    exact ⟨_, by rw [← hx], by simp [T.get_set_ite, h0], by simp [T.get_set_ite], by simp [T.get_set_ite, cnt, h4]⟩
  | c :: l, i, tm, h, x, hx, hd, hi, h0, h4 => by
    obtain ⟨hlt, hc, hd'⟩ := dcons hd
    obtain ⟨R, hR, hx⟩ := loop_step hx
    have hlt' := ltI_t hlt
    have hw := wr_succ (i := i) (by omega)
    have hm : pMore ↑c = (pLetter ↑c || (pDigit ↑c || (intBeq ↑c 95 || intBeq ↑c 39))) := rfl
    have key : x = R tm h → True := fun _ => trivial
    cases h1 : pLetter ↑c <;> cases h2 : pDigit ↑c <;> cases h3 : intBeq ↑c 95 <;> cases h5 : intBeq ↑c 39 <;>
      simp [b24_0, loopOf, Tryd.f24, loops, cdL_seq, cdL_region, cdL_drawn, cdL_cond, cdL_block, cdL_skip, cdL_label, cdL_exit, cdL_ret, endL, evSeq, evOne, evAct, evOp, opKind, evPure, evRead, evNew, evWrite, evSlice, natOf, optVal, readAt, AV.cells, wantedA, putTm, val, allVals, evBin, evInt, evStr, evAppend, denseFrom, sizesAre, onesIn, evPlan, recheck, AV.beq_refl, H.new, H.put, fillF, fillAt, allOne, AV.one, setArgs, evRes, resOf, ofVal, ofVal0, blt_dec, ble_dec, beq_dec, T.get_set_ite, T.get_e, isShift, ikBeq, ty_0, ty_1, ty_2, ty_3, ty_4, ty_5, ty_6, ty_7, ty_8, ty_9, ty_10, ty_11, ty_12, ty_13, ty_14, ty_15, ty_16, ty_17, ty_18, ty_19, ty_20, ty_21, ty_22, ty_23, ty_24, ty_25, ty_26, ty_27, ty_28, ty_29, ty_30, ty_31, ty_32, ty_33, ty_34, ty_35, ty_36, ty_37, ty_38, ty_39, ty_40, ty_41, ty_42, ty_43, ty_44, ty_45, ty_46, ty_47, ty_48, ty_49, ty_50, ty_51, ty_52, ty_53, ty_54, ty_55, ty_56, ty_57, ty_58, ty_59, ty_60, ty_61, ty_62, ty_63, ty_64, ty_65, ty_66, ty_67, ty_68, ty_69, ty_70, ty_71, ty_72, ty_73, ty_74, ty_75, ty_76, ty_77, ty_78, ty_79, ty_80, ty_81, ty_82, ty_83, ty_84, ty_85, ty_86, ty_87, ty_88, ty_89, ty_90, pl_4_17, pl_7_6, pl_10_6, pl_15_6, pl_18_3, pl_28_5, pl_43_9, pl_43_18, pl_44_9, lp, e8ty, e8pl, e8_23, e8_25, h0, h4, hlt', hc, h1, h2, h3, h5, hw] at hx
    case false.false.false.false =>
      have e : cnt pMore (c :: l) = 0 := by simp [cnt, hm, h1, h2, h3, h5]
      rw [e]
      exact ⟨_, by rw [← hx], by simp [T.get_set_ite, h0], by simp [T.get_set_ite], by simp [T.get_set_ite, h4]⟩
    all_goals
      rw [hR] at hx
      have e : cnt pMore (c :: l) = cnt pMore l + 1 := by simp [cnt, hm, h1, h2, h3, h5]
      obtain ⟨tm', g0, g1, g2, g3⟩ := loop24 hl l (i + 1) hx hd' hlt (by simp [T.get_set_ite, h0]) (by simp [T.get_set_ite])
      exact ⟨tm', g0, g1, by rw [g2]; simp [T.get_set_ite], by rw [g3, e]; simp [Nat.add_assoc, Nat.add_comm 1]⟩
def rname (s : List Nat) : AV :=
  let n := 1 + cnt pMore (s.drop 1)
  bif isW (s.take n) then .tup [tokA 4 (s.take n) 0 0, .int .i64 ↑n] else bif ltI 12 ↑n then .tup [tokA 0 [] 0 0, .int .i64 0] else .tup [tokA 1 (s.take n) 0 0, .int .i64 ↑n]
theorem rname_run (s : List Nat) (hl : s.length < 140737488355328) (hs : 0 < s.length) : ∃ h1, evL env8 24 [.str s] ⟨.e, 0⟩ = some (rname s, h1) := by
  rw [evL_fn env8 (by kernel_rfl) (by kernel_rfl) body24 _ _ rfl]
  simp only [codeAt, sub, Tryd.f24]
  simp [cdL_seq, cdL_region, cdL_drawn, cdL_cond, cdL_block, cdL_skip, cdL_label, cdL_exit, cdL_ret, endL, evSeq, evOne, evAct, evOp, opKind, evPure, evRead, evNew, evWrite, evSlice, natOf, optVal, readAt, AV.cells, wantedA, putTm, val, allVals, evBin, evInt, evStr, evAppend, denseFrom, sizesAre, onesIn, evPlan, recheck, AV.beq_refl, H.new, H.put, fillF, fillAt, allOne, AV.one, setArgs, evRes, resOf, ofVal, ofVal0, blt_dec, ble_dec, beq_dec, T.get_set_ite, T.get_e, isShift, ikBeq, ty_0, ty_1, ty_2, ty_3, ty_4, ty_5, ty_6, ty_7, ty_8, ty_9, ty_10, ty_11, ty_12, ty_13, ty_14, ty_15, ty_16, ty_17, ty_18, ty_19, ty_20, ty_21, ty_22, ty_23, ty_24, ty_25, ty_26, ty_27, ty_28, ty_29, ty_30, ty_31, ty_32, ty_33, ty_34, ty_35, ty_36, ty_37, ty_38, ty_39, ty_40, ty_41, ty_42, ty_43, ty_44, ty_45, ty_46, ty_47, ty_48, ty_49, ty_50, ty_51, ty_52, ty_53, ty_54, ty_55, ty_56, ty_57, ty_58, ty_59, ty_60, ty_61, ty_62, ty_63, ty_64, ty_65, ty_66, ty_67, ty_68, ty_69, ty_70, ty_71, ty_72, ty_73, ty_74, ty_75, ty_76, ty_77, ty_78, ty_79, ty_80, ty_81, ty_82, ty_83, ty_84, ty_85, ty_86, ty_87, ty_88, ty_89, ty_90, pl_4_17, pl_7_6, pl_10_6, pl_15_6, pl_18_3, pl_28_5, pl_43_9, pl_43_18, pl_44_9, e8ty, e8pl]
  generalize hx : cdL env8 24 52 (.loop b24_0) _ _ = x
  obtain ⟨tm', rfl, g0, g2, g4⟩ := loop24 (s := s) (by omega) (s.drop 1) 1 hx rfl hs (by simp [T.get_set_ite]) (by simp [T.get_set_ite])
  simp [T.get_set_ite] at g2
  have hn := cnt_le pMore (s.drop 1)
  rw [List.length_drop] at hn
  unfold rname
  simp only
  generalize hm : 1 + cnt pMore (s.drop 1) = m at *
  have hm1 : m ≤ s.length := by omega
  have ht : lenOk (s.take m) = true := lenOk_iff.2 (by simp; omega)
  have w1 := fun h => e8_36 h (s.take m) ht
  cases h1 : isW (s.take m) with
  | true => simp [cdL_seq, cdL_region, cdL_drawn, cdL_cond, cdL_block, cdL_skip, cdL_label, cdL_exit, cdL_ret, endL, evSeq, evOne, evAct, evOp, opKind, evPure, evRead, evNew, evWrite, evSlice, natOf, optVal, readAt, AV.cells, wantedA, putTm, val, allVals, evBin, evInt, evStr, evAppend, denseFrom, sizesAre, onesIn, evPlan, recheck, AV.beq_refl, H.new, H.put, fillF, fillAt, allOne, AV.one, setArgs, evRes, resOf, ofVal, ofVal0, blt_dec, ble_dec, beq_dec, T.get_set_ite, T.get_e, isShift, ikBeq, ty_0, ty_1, ty_2, ty_3, ty_4, ty_5, ty_6, ty_7, ty_8, ty_9, ty_10, ty_11, ty_12, ty_13, ty_14, ty_15, ty_16, ty_17, ty_18, ty_19, ty_20, ty_21, ty_22, ty_23, ty_24, ty_25, ty_26, ty_27, ty_28, ty_29, ty_30, ty_31, ty_32, ty_33, ty_34, ty_35, ty_36, ty_37, ty_38, ty_39, ty_40, ty_41, ty_42, ty_43, ty_44, ty_45, ty_46, ty_47, ty_48, ty_49, ty_50, ty_51, ty_52, ty_53, ty_54, ty_55, ty_56, ty_57, ty_58, ty_59, ty_60, ty_61, ty_62, ty_63, ty_64, ty_65, ty_66, ty_67, ty_68, ty_69, ty_70, ty_71, ty_72, ty_73, ty_74, ty_75, ty_76, ty_77, ty_78, ty_79, ty_80, ty_81, ty_82, ty_83, ty_84, ty_85, ty_86, ty_87, ty_88, ty_89, ty_90, pl_4_17, pl_7_6, pl_10_6, pl_15_6, pl_18_3, pl_28_5, pl_43_9, pl_43_18, pl_44_9, e8ty, e8pl, g0, g2, g4, hm1, w1, h1, tokA]
  | false =>
    cases h2 : ltI 12 ↑m with
    | true => simp [cdL_seq, cdL_region, cdL_drawn, cdL_cond, cdL_block, cdL_skip, cdL_label, cdL_exit, cdL_ret, endL, evSeq, evOne, evAct, evOp, opKind, evPure, evRead, evNew, evWrite, evSlice, natOf, optVal, readAt, AV.cells, wantedA, putTm, val, allVals, evBin, evInt, evStr, evAppend, denseFrom, sizesAre, onesIn, evPlan, recheck, AV.beq_refl, H.new, H.put, fillF, fillAt, allOne, AV.one, setArgs, evRes, resOf, ofVal, ofVal0, blt_dec, ble_dec, beq_dec, T.get_set_ite, T.get_e, isShift, ikBeq, ty_0, ty_1, ty_2, ty_3, ty_4, ty_5, ty_6, ty_7, ty_8, ty_9, ty_10, ty_11, ty_12, ty_13, ty_14, ty_15, ty_16, ty_17, ty_18, ty_19, ty_20, ty_21, ty_22, ty_23, ty_24, ty_25, ty_26, ty_27, ty_28, ty_29, ty_30, ty_31, ty_32, ty_33, ty_34, ty_35, ty_36, ty_37, ty_38, ty_39, ty_40, ty_41, ty_42, ty_43, ty_44, ty_45, ty_46, ty_47, ty_48, ty_49, ty_50, ty_51, ty_52, ty_53, ty_54, ty_55, ty_56, ty_57, ty_58, ty_59, ty_60, ty_61, ty_62, ty_63, ty_64, ty_65, ty_66, ty_67, ty_68, ty_69, ty_70, ty_71, ty_72, ty_73, ty_74, ty_75, ty_76, ty_77, ty_78, ty_79, ty_80, ty_81, ty_82, ty_83, ty_84, ty_85, ty_86, ty_87, ty_88, ty_89, ty_90, pl_4_17, pl_7_6, pl_10_6, pl_15_6, pl_18_3, pl_28_5, pl_43_9, pl_43_18, pl_44_9, e8ty, e8pl, g0, g2, g4, hm1, w1, h1, h2, tokA]
    | false => simp [cdL_seq, cdL_region, cdL_drawn, cdL_cond, cdL_block, cdL_skip, cdL_label, cdL_exit, cdL_ret, endL, evSeq, evOne, evAct, evOp, opKind, evPure, evRead, evNew, evWrite, evSlice, natOf, optVal, readAt, AV.cells, wantedA, putTm, val, allVals, evBin, evInt, evStr, evAppend, denseFrom, sizesAre, onesIn, evPlan, recheck, AV.beq_refl, H.new, H.put, fillF, fillAt, allOne, AV.one, setArgs, evRes, resOf, ofVal, ofVal0, blt_dec, ble_dec, beq_dec, T.get_set_ite, T.get_e, isShift, ikBeq, ty_0, ty_1, ty_2, ty_3, ty_4, ty_5, ty_6, ty_7, ty_8, ty_9, ty_10, ty_11, ty_12, ty_13, ty_14, ty_15, ty_16, ty_17, ty_18, ty_19, ty_20, ty_21, ty_22, ty_23, ty_24, ty_25, ty_26, ty_27, ty_28, ty_29, ty_30, ty_31, ty_32, ty_33, ty_34, ty_35, ty_36, ty_37, ty_38, ty_39, ty_40, ty_41, ty_42, ty_43, ty_44, ty_45, ty_46, ty_47, ty_48, ty_49, ty_50, ty_51, ty_52, ty_53, ty_54, ty_55, ty_56, ty_57, ty_58, ty_59, ty_60, ty_61, ty_62, ty_63, ty_64, ty_65, ty_66, ty_67, ty_68, ty_69, ty_70, ty_71, ty_72, ty_73, ty_74, ty_75, ty_76, ty_77, ty_78, ty_79, ty_80, ty_81, ty_82, ty_83, ty_84, ty_85, ty_86, ty_87, ty_88, ty_89, ty_90, pl_4_17, pl_7_6, pl_10_6, pl_15_6, pl_18_3, pl_28_5, pl_43_9, pl_43_18, pl_44_9, e8ty, e8pl, g0, g2, g4, hm1, w1, h1, h2, tokA]

/-! ### A number -/
noncomputable def b26_0 : Code := loopOf Tryd.f26 0
theorem body26 : Tryd.f26.body = some (.seq (codeAt Tryd.f26 [0]) (.seq (codeAt Tryd.f26 [1, 0]) (.seq (codeAt Tryd.f26 [1, 1, 0]) (.seq (.block 0 (.loop b26_0)) (codeAt Tryd.f26 [1, 1, 1, 1]))))) := rfl
def rv : Nat → List Nat → Int → Int
  | _, [], v => v
  | n, c :: l, v => bif pDigit ↑c then rv (n + 1) l (bif ltI ↑n 18 then stepF v c else v) else v
theorem loop26 {s : List Nat} (hl : s.length < 4611686018427387904) : ∀ (l : List Nat) (i : Nat) (v : Int) {tm : Tm} {h : H} {x : Option (Ex × Tm × H)}, cdL env8 26 43 (.loop b26_0) tm h = x → l = s.drop i → i ≤ s.length →
    tm.get 0 = some (.str s) → tm.get 4 = some (.int .i64 ↑i) → tm.get 5 = some (.int .i64 v) → ∃ tm', x = some (.exit 0, tm', h) ∧ tm'.get 0 = some (.str s) ∧ tm'.get 2 = tm.get 2 ∧ tm'.get 4 = some (.int .i64 ↑(i + cnt pDigit l)) ∧ tm'.get 5 = some (.int .i64 (rv i l v))
  | [], i, v, tm, h, x, hx, hd, hi, h0, h4, h5 => by
    have hlen := dnil hd hi
    obtain ⟨R, hR, hx⟩ := loop_step hx
    simp [b26_0, loopOf, Tryd.f26, loops, cdL_seq, cdL_region, cdL_drawn, cdL_cond, cdL_block, cdL_skip, cdL_label, cdL_exit, cdL_ret, endL, evSeq, evOne, evAct, evOp, opKind, evPure, evRead, evNew, evWrite, evSlice, natOf, optVal, readAt, AV.cells, wantedA, putTm, val, allVals, evBin, evInt, evStr, evAppend, denseFrom, sizesAre, onesIn, evPlan, recheck, AV.beq_refl, H.new, H.put, fillF, fillAt, allOne, AV.one, setArgs, evRes, resOf, ofVal, ofVal0, blt_dec, ble_dec, beq_dec, T.get_set_ite, T.get_e, isShift, ikBeq, ty_0, ty_1, ty_2, ty_3, ty_4, ty_5, ty_6, ty_7, ty_8, ty_9, ty_10, ty_11, ty_12, ty_13, ty_14, ty_15, ty_16, ty_17, ty_18, ty_19, ty_20, ty_21, ty_22, ty_23, ty_24, ty_25, ty_26, ty_27, ty_28, ty_29, ty_30, ty_31, ty_32, ty_33, ty_34, ty_35, ty_36, ty_37, ty_38, ty_39, ty_40, ty_41, ty_42, ty_43, ty_44, ty_45, ty_46, ty_47, ty_48, ty_49, ty_50, ty_51, ty_52, ty_53, ty_54, ty_55, ty_56, ty_57, ty_58, ty_59, ty_60, ty_61, ty_62, ty_63, ty_64, ty_65, ty_66, ty_67, ty_68, ty_69, ty_70, ty_71, ty_72, ty_73, ty_74, ty_75, ty_76, ty_77, ty_78, ty_79, ty_80, ty_81, ty_82, ty_83, ty_84, ty_85, ty_86, ty_87, ty_88, ty_89, ty_90, pl_4_17, pl_7_6, pl_10_6, pl_15_6, pl_18_3, pl_28_5, pl_43_9, pl_43_18, pl_44_9, lp, e8ty, e8pl, h0, h4, h5, hlen, ltI_f] at hx
    exact ⟨_, by rw [← hx], by simp [T.get_set_ite, h0], by simp [T.get_set_ite], by simp [T.get_set_ite, cnt, h4], by simp [T.get_set_ite, h5, rv]⟩
  | c :: l, i, v, tm, h, x, hx, hd, hi, h0, h4, h5 => by
    obtain ⟨hlt, hc, hd'⟩ := dcons hd
    obtain ⟨R, hR, hx⟩ := loop_step hx
    have hlt' := ltI_t hlt
    have hw := wr_succ (i := i) (by omega)
    cases h1 : pDigit ↑c with
    | false =>
      simp [b26_0, loopOf, Tryd.f26, loops, cdL_seq, cdL_region, cdL_drawn, cdL_cond, cdL_block, cdL_skip, cdL_label, cdL_exit, cdL_ret, endL, evSeq, evOne, evAct, evOp, opKind, evPure, evRead, evNew, evWrite, evSlice, natOf, optVal, readAt, AV.cells, wantedA, putTm, val, allVals, evBin, evInt, evStr, evAppend, denseFrom, sizesAre, onesIn, evPlan, recheck, AV.beq_refl, H.new, H.put, fillF, fillAt, allOne, AV.one, setArgs, evRes, resOf, ofVal, ofVal0, blt_dec, ble_dec, beq_dec, T.get_set_ite, T.get_e, isShift, ikBeq, ty_0, ty_1, ty_2, ty_3, ty_4, ty_5, ty_6, ty_7, ty_8, ty_9, ty_10, ty_11, ty_12, ty_13, ty_14, ty_15, ty_16, ty_17, ty_18, ty_19, ty_20, ty_21, ty_22, ty_23, ty_24, ty_25, ty_26, ty_27, ty_28, ty_29, ty_30, ty_31, ty_32, ty_33, ty_34, ty_35, ty_36, ty_37, ty_38, ty_39, ty_40, ty_41, ty_42, ty_43, ty_44, ty_45, ty_46, ty_47, ty_48, ty_49, ty_50, ty_51, ty_52, ty_53, ty_54, ty_55, ty_56, ty_57, ty_58, ty_59, ty_60, ty_61, ty_62, ty_63, ty_64, ty_65, ty_66, ty_67, ty_68, ty_69, ty_70, ty_71, ty_72, ty_73, ty_74, ty_75, ty_76, ty_77, ty_78, ty_79, ty_80, ty_81, ty_82, ty_83, ty_84, ty_85, ty_86, ty_87, ty_88, ty_89, ty_90, pl_4_17, pl_7_6, pl_10_6, pl_15_6, pl_18_3, pl_28_5, pl_43_9, pl_43_18, pl_44_9, lp, e8ty, e8pl, e8_25, h0, h4, h5, hlt', hc, h1, hw] at hx
      exact ⟨_, by rw [← hx], by simp [T.get_set_ite, h0], by simp [T.get_set_ite], by simp [T.get_set_ite, h4, cnt, h1], by simp [T.get_set_ite, h5, rv, h1]⟩
    | true =>
      cases h2 : ltI ↑i 18 with
      | true =>
        simp [b26_0, loopOf, Tryd.f26, loops, cdL_seq, cdL_region, cdL_drawn, cdL_cond, cdL_block, cdL_skip, cdL_label, cdL_exit, cdL_ret, endL, evSeq, evOne, evAct, evOp, opKind, evPure, evRead, evNew, evWrite, evSlice, natOf, optVal, readAt, AV.cells, wantedA, putTm, val, allVals, evBin, evInt, evStr, evAppend, denseFrom, sizesAre, onesIn, evPlan, recheck, AV.beq_refl, H.new, H.put, fillF, fillAt, allOne, AV.one, setArgs, evRes, resOf, ofVal, ofVal0, blt_dec, ble_dec, beq_dec, T.get_set_ite, T.get_e, isShift, ikBeq, ty_0, ty_1, ty_2, ty_3, ty_4, ty_5, ty_6, ty_7, ty_8, ty_9, ty_10, ty_11, ty_12, ty_13, ty_14, ty_15, ty_16, ty_17, ty_18, ty_19, ty_20, ty_21, ty_22, ty_23, ty_24, ty_25, ty_26, ty_27, ty_28, ty_29, ty_30, ty_31, ty_32, ty_33, ty_34, ty_35, ty_36, ty_37, ty_38, ty_39, ty_40, ty_41, ty_42, ty_43, ty_44, ty_45, ty_46, ty_47, ty_48, ty_49, ty_50, ty_51, ty_52, ty_53, ty_54, ty_55, ty_56, ty_57, ty_58, ty_59, ty_60, ty_61, ty_62, ty_63, ty_64, ty_65, ty_66, ty_67, ty_68, ty_69, ty_70, ty_71, ty_72, ty_73, ty_74, ty_75, ty_76, ty_77, ty_78, ty_79, ty_80, ty_81, ty_82, ty_83, ty_84, ty_85, ty_86, ty_87, ty_88, ty_89, ty_90, pl_4_17, pl_7_6, pl_10_6, pl_15_6, pl_18_3, pl_28_5, pl_43_9, pl_43_18, pl_44_9, lp, e8ty, e8pl, e8_25, h0, h4, h5, hlt', hc, h1, h2, hw, isub] at hx
        rw [hR] at hx
        obtain ⟨tm', g0, g1, g2, g3, g4⟩ := loop26 hl l (i + 1) (stepF v c) hx hd' hlt (by simp [T.get_set_ite, h0]) (by simp [T.get_set_ite]) (by simp [T.get_set_ite, stepF, Int.mul_comm])
        exact ⟨tm', g0, g1, by rw [g2]; simp [T.get_set_ite], by rw [g3]; simp [cnt, h1, Nat.add_assoc, Nat.add_comm 1], by rw [g4]; simp [rv, h1, h2]⟩
      | false =>
        simp [b26_0, loopOf, Tryd.f26, loops, cdL_seq, cdL_region, cdL_drawn, cdL_cond, cdL_block, cdL_skip, cdL_label, cdL_exit, cdL_ret, endL, evSeq, evOne, evAct, evOp, opKind, evPure, evRead, evNew, evWrite, evSlice, natOf, optVal, readAt, AV.cells, wantedA, putTm, val, allVals, evBin, evInt, evStr, evAppend, denseFrom, sizesAre, onesIn, evPlan, recheck, AV.beq_refl, H.new, H.put, fillF, fillAt, allOne, AV.one, setArgs, evRes, resOf, ofVal, ofVal0, blt_dec, ble_dec, beq_dec, T.get_set_ite, T.get_e, isShift, ikBeq, ty_0, ty_1, ty_2, ty_3, ty_4, ty_5, ty_6, ty_7, ty_8, ty_9, ty_10, ty_11, ty_12, ty_13, ty_14, ty_15, ty_16, ty_17, ty_18, ty_19, ty_20, ty_21, ty_22, ty_23, ty_24, ty_25, ty_26, ty_27, ty_28, ty_29, ty_30, ty_31, ty_32, ty_33, ty_34, ty_35, ty_36, ty_37, ty_38, ty_39, ty_40, ty_41, ty_42, ty_43, ty_44, ty_45, ty_46, ty_47, ty_48, ty_49, ty_50, ty_51, ty_52, ty_53, ty_54, ty_55, ty_56, ty_57, ty_58, ty_59, ty_60, ty_61, ty_62, ty_63, ty_64, ty_65, ty_66, ty_67, ty_68, ty_69, ty_70, ty_71, ty_72, ty_73, ty_74, ty_75, ty_76, ty_77, ty_78, ty_79, ty_80, ty_81, ty_82, ty_83, ty_84, ty_85, ty_86, ty_87, ty_88, ty_89, ty_90, pl_4_17, pl_7_6, pl_10_6, pl_15_6, pl_18_3, pl_28_5, pl_43_9, pl_43_18, pl_44_9, lp, e8ty, e8pl, e8_25, h0, h4, h5, hlt', hc, h1, h2, hw, isub] at hx
        rw [hR] at hx
        obtain ⟨tm', g0, g1, g2, g3, g4⟩ := loop26 hl l (i + 1) v hx hd' hlt (by simp [T.get_set_ite, h0]) (by simp [T.get_set_ite]) (by simp [T.get_set_ite, h5])
        exact ⟨tm', g0, g1, by rw [g2]; simp [T.get_set_ite], by rw [g3]; simp [cnt, h1, Nat.add_assoc, Nat.add_comm 1], by rw [g4]; simp [rv, h1, h2]⟩
def rnum (s : List Nat) : AV := bif numBad s 0 (cnt pDigit s) then .tup [tokA 0 [] 0 0, .int .i64 0] else .tup [tokA 2 [] (rv 0 s 0) 0, .int .i64 ↑(cnt pDigit s)]
theorem rnum_run (s : List Nat) (hl : s.length < 140737488355328) (hs : 0 < s.length) : ∃ h1, evL env8 26 [.str s] ⟨.e, 0⟩ = some (rnum s, h1) := by
  rw [evL_fn env8 (by kernel_rfl) (by kernel_rfl) body26 _ _ rfl]
  simp only [codeAt, sub, Tryd.f26]
  simp [cdL_seq, cdL_region, cdL_drawn, cdL_cond, cdL_block, cdL_skip, cdL_label, cdL_exit, cdL_ret, endL, evSeq, evOne, evAct, evOp, opKind, evPure, evRead, evNew, evWrite, evSlice, natOf, optVal, readAt, AV.cells, wantedA, putTm, val, allVals, evBin, evInt, evStr, evAppend, denseFrom, sizesAre, onesIn, evPlan, recheck, AV.beq_refl, H.new, H.put, fillF, fillAt, allOne, AV.one, setArgs, evRes, resOf, ofVal, ofVal0, blt_dec, ble_dec, beq_dec, T.get_set_ite, T.get_e, isShift, ikBeq, ty_0, ty_1, ty_2, ty_3, ty_4, ty_5, ty_6, ty_7, ty_8, ty_9, ty_10, ty_11, ty_12, ty_13, ty_14, ty_15, ty_16, ty_17, ty_18, ty_19, ty_20, ty_21, ty_22, ty_23, ty_24, ty_25, ty_26, ty_27, ty_28, ty_29, ty_30, ty_31, ty_32, ty_33, ty_34, ty_35, ty_36, ty_37, ty_38, ty_39, ty_40, ty_41, ty_42, ty_43, ty_44, ty_45, ty_46, ty_47, ty_48, ty_49, ty_50, ty_51, ty_52, ty_53, ty_54, ty_55, ty_56, ty_57, ty_58, ty_59, ty_60, ty_61, ty_62, ty_63, ty_64, ty_65, ty_66, ty_67, ty_68, ty_69, ty_70, ty_71, ty_72, ty_73, ty_74, ty_75, ty_76, ty_77, ty_78, ty_79, ty_80, ty_81, ty_82, ty_83, ty_84, ty_85, ty_86, ty_87, ty_88, ty_89, ty_90, pl_4_17, pl_7_6, pl_10_6, pl_15_6, pl_18_3, pl_28_5, pl_43_9, pl_43_18, pl_44_9, e8ty, e8pl]
  generalize hx : cdL env8 26 43 (.loop b26_0) _ _ = x
  obtain ⟨tm', rfl, g0, g2, g4, g5⟩ := loop26 (s := s) (by omega) s 0 0 hx rfl (Nat.zero_le _) (by simp [T.get_set_ite]) (by simp [T.get_set_ite]) (by simp [T.get_set_ite])
  simp [T.get_set_ite] at g2 g4
  obtain ⟨c, hc⟩ : ∃ c, s[0]? = some c := ⟨_, List.getElem?_eq_getElem hs⟩
  unfold rnum numBad
  rw [hc]
  simp only
  generalize hm : cnt pDigit s = m at *
  cases h1 : ltI 18 ↑m <;> cases h2 : ltI 1 ↑m <;> cases h3 : intBeq ↑c 48 <;> simp [cdL_seq, cdL_region, cdL_drawn, cdL_cond, cdL_block, cdL_skip, cdL_label, cdL_exit, cdL_ret, endL, evSeq, evOne, evAct, evOp, opKind, evPure, evRead, evNew, evWrite, evSlice, natOf, optVal, readAt, AV.cells, wantedA, putTm, val, allVals, evBin, evInt, evStr, evAppend, denseFrom, sizesAre, onesIn, evPlan, recheck, AV.beq_refl, H.new, H.put, fillF, fillAt, allOne, AV.one, setArgs, evRes, resOf, ofVal, ofVal0, blt_dec, ble_dec, beq_dec, T.get_set_ite, T.get_e, isShift, ikBeq, ty_0, ty_1, ty_2, ty_3, ty_4, ty_5, ty_6, ty_7, ty_8, ty_9, ty_10, ty_11, ty_12, ty_13, ty_14, ty_15, ty_16, ty_17, ty_18, ty_19, ty_20, ty_21, ty_22, ty_23, ty_24, ty_25, ty_26, ty_27, ty_28, ty_29, ty_30, ty_31, ty_32, ty_33, ty_34, ty_35, ty_36, ty_37, ty_38, ty_39, ty_40, ty_41, ty_42, ty_43, ty_44, ty_45, ty_46, ty_47, ty_48, ty_49, ty_50, ty_51, ty_52, ty_53, ty_54, ty_55, ty_56, ty_57, ty_58, ty_59, ty_60, ty_61, ty_62, ty_63, ty_64, ty_65, ty_66, ty_67, ty_68, ty_69, ty_70, ty_71, ty_72, ty_73, ty_74, ty_75, ty_76, ty_77, ty_78, ty_79, ty_80, ty_81, ty_82, ty_83, ty_84, ty_85, ty_86, ty_87, ty_88, ty_89, ty_90, pl_4_17, pl_7_6, pl_10_6, pl_15_6, pl_18_3, pl_28_5, pl_43_9, pl_43_18, pl_44_9, e8ty, e8pl, g0, g2, g4, g5, h1, h2, h3, hc, tokA]

/-! ### A string -/
noncomputable def b27_0 : Code := loopOf Tryd.f27 0
theorem body27 : Tryd.f27.body = some (.seq (codeAt Tryd.f27 [0]) (.seq (codeAt Tryd.f27 [1, 0]) (.seq (.block 0 (.loop b27_0)) (codeAt Tryd.f27 [1, 1, 1])))) := rfl
def pNq (c : Int) : Bool := !intBeq c 34
theorem loop27 {s : List Nat} (hl : s.length < 4611686018427387904) : ∀ (l : List Nat) (i : Nat) {tm : Tm} {h : H} {x : Option (Ex × Tm × H)}, cdL env8 27 35 (.loop b27_0) tm h = x → l = s.drop i → i ≤ s.length →
    tm.get 0 = some (.str s) → tm.get 4 = some (.int .i64 ↑i) → ∃ tm', x = some (.exit 0, tm', h) ∧ tm'.get 0 = some (.str s) ∧ tm'.get 2 = tm.get 2 ∧ tm'.get 4 = some (.int .i64 ↑(i + cnt pNq l))
  | [], i, tm, h, x, hx, hd, hi, h0, h4 => by
    have hlen := dnil hd hi
    obtain ⟨R, hR, hx⟩ := loop_step hx
    simp [b27_0, loopOf, Tryd.f27, loops, cdL_seq, cdL_region, cdL_drawn, cdL_cond, cdL_block, cdL_skip, cdL_label, cdL_exit, cdL_ret, endL, evSeq, evOne, evAct, evOp, opKind, evPure, evRead, evNew, evWrite, evSlice, natOf, optVal, readAt, AV.cells, wantedA, putTm, val, allVals, evBin, evInt, evStr, evAppend, denseFrom, sizesAre, onesIn, evPlan, recheck, AV.beq_refl, H.new, H.put, fillF, fillAt, allOne, AV.one, setArgs, evRes, resOf, ofVal, ofVal0, blt_dec, ble_dec, beq_dec, T.get_set_ite, T.get_e, isShift, ikBeq, ty_0, ty_1, ty_2, ty_3, ty_4, ty_5, ty_6, ty_7, ty_8, ty_9, ty_10, ty_11, ty_12, ty_13, ty_14, ty_15, ty_16, ty_17, ty_18, ty_19, ty_20, ty_21, ty_22, ty_23, ty_24, ty_25, ty_26, ty_27, ty_28, ty_29, ty_30, ty_31, ty_32, ty_33, ty_34, ty_35, ty_36, ty_37, ty_38, ty_39, ty_40, ty_41, ty_42, ty_43, ty_44, ty_45, ty_46, ty_47, ty_48, ty_49, ty_50, ty_51, ty_52, ty_53, ty_54, ty_55, ty_56, ty_57, ty_58, ty_59, ty_60, ty_61, ty_62, ty_63, ty_64, ty_65, ty_66, ty_67, ty_68, ty_69, ty_70, ty_71, ty_72, ty_73, ty_74, ty_75, ty_76, ty_77, ty_78, ty_79, ty_80, ty_81, ty_82, ty_83, ty_84, ty_85, ty_86, ty_87, ty_88, ty_89, ty_90, pl_4_17, pl_7_6, pl_10_6, pl_15_6, pl_18_3, pl_28_5, pl_43_9, pl_43_18, pl_44_9, lp, e8ty, e8pl, h0, h4, hlen, ltI_f] at hx
    exact ⟨_, by rw [← hx], by simp [T.get_set_ite, h0], by simp [T.get_set_ite], by simp [T.get_set_ite, cnt, h4]⟩
  | c :: l, i, tm, h, x, hx, hd, hi, h0, h4 => by
    obtain ⟨hlt, hc, hd'⟩ := dcons hd
    obtain ⟨R, hR, hx⟩ := loop_step hx
    have hlt' := ltI_t hlt
    have hw := wr_succ (i := i) (by omega)
    cases h1 : intBeq ↑c 34 with
    | true =>
      simp [b27_0, loopOf, Tryd.f27, loops, cdL_seq, cdL_region, cdL_drawn, cdL_cond, cdL_block, cdL_skip, cdL_label, cdL_exit, cdL_ret, endL, evSeq, evOne, evAct, evOp, opKind, evPure, evRead, evNew, evWrite, evSlice, natOf, optVal, readAt, AV.cells, wantedA, putTm, val, allVals, evBin, evInt, evStr, evAppend, denseFrom, sizesAre, onesIn, evPlan, recheck, AV.beq_refl, H.new, H.put, fillF, fillAt, allOne, AV.one, setArgs, evRes, resOf, ofVal, ofVal0, blt_dec, ble_dec, beq_dec, T.get_set_ite, T.get_e, isShift, ikBeq, ty_0, ty_1, ty_2, ty_3, ty_4, ty_5, ty_6, ty_7, ty_8, ty_9, ty_10, ty_11, ty_12, ty_13, ty_14, ty_15, ty_16, ty_17, ty_18, ty_19, ty_20, ty_21, ty_22, ty_23, ty_24, ty_25, ty_26, ty_27, ty_28, ty_29, ty_30, ty_31, ty_32, ty_33, ty_34, ty_35, ty_36, ty_37, ty_38, ty_39, ty_40, ty_41, ty_42, ty_43, ty_44, ty_45, ty_46, ty_47, ty_48, ty_49, ty_50, ty_51, ty_52, ty_53, ty_54, ty_55, ty_56, ty_57, ty_58, ty_59, ty_60, ty_61, ty_62, ty_63, ty_64, ty_65, ty_66, ty_67, ty_68, ty_69, ty_70, ty_71, ty_72, ty_73, ty_74, ty_75, ty_76, ty_77, ty_78, ty_79, ty_80, ty_81, ty_82, ty_83, ty_84, ty_85, ty_86, ty_87, ty_88, ty_89, ty_90, pl_4_17, pl_7_6, pl_10_6, pl_15_6, pl_18_3, pl_28_5, pl_43_9, pl_43_18, pl_44_9, lp, e8ty, e8pl, h0, h4, hlt', hc, h1, hw] at hx
      exact ⟨_, by rw [← hx], by simp [T.get_set_ite, h0], by simp [T.get_set_ite], by simp [T.get_set_ite, h4, cnt, pNq, h1]⟩
    | false =>
      simp [b27_0, loopOf, Tryd.f27, loops, cdL_seq, cdL_region, cdL_drawn, cdL_cond, cdL_block, cdL_skip, cdL_label, cdL_exit, cdL_ret, endL, evSeq, evOne, evAct, evOp, opKind, evPure, evRead, evNew, evWrite, evSlice, natOf, optVal, readAt, AV.cells, wantedA, putTm, val, allVals, evBin, evInt, evStr, evAppend, denseFrom, sizesAre, onesIn, evPlan, recheck, AV.beq_refl, H.new, H.put, fillF, fillAt, allOne, AV.one, setArgs, evRes, resOf, ofVal, ofVal0, blt_dec, ble_dec, beq_dec, T.get_set_ite, T.get_e, isShift, ikBeq, ty_0, ty_1, ty_2, ty_3, ty_4, ty_5, ty_6, ty_7, ty_8, ty_9, ty_10, ty_11, ty_12, ty_13, ty_14, ty_15, ty_16, ty_17, ty_18, ty_19, ty_20, ty_21, ty_22, ty_23, ty_24, ty_25, ty_26, ty_27, ty_28, ty_29, ty_30, ty_31, ty_32, ty_33, ty_34, ty_35, ty_36, ty_37, ty_38, ty_39, ty_40, ty_41, ty_42, ty_43, ty_44, ty_45, ty_46, ty_47, ty_48, ty_49, ty_50, ty_51, ty_52, ty_53, ty_54, ty_55, ty_56, ty_57, ty_58, ty_59, ty_60, ty_61, ty_62, ty_63, ty_64, ty_65, ty_66, ty_67, ty_68, ty_69, ty_70, ty_71, ty_72, ty_73, ty_74, ty_75, ty_76, ty_77, ty_78, ty_79, ty_80, ty_81, ty_82, ty_83, ty_84, ty_85, ty_86, ty_87, ty_88, ty_89, ty_90, pl_4_17, pl_7_6, pl_10_6, pl_15_6, pl_18_3, pl_28_5, pl_43_9, pl_43_18, pl_44_9, lp, e8ty, e8pl, h0, h4, hlt', hc, h1, hw, isub] at hx
      rw [hR] at hx
      obtain ⟨tm', g0, g1, g2, g3⟩ := loop27 hl l (i + 1) hx hd' hlt (by simp [T.get_set_ite, h0]) (by simp [T.get_set_ite])
      exact ⟨tm', g0, g1, by rw [g2]; simp [T.get_set_ite], by rw [g3]; simp [cnt, pNq, h1, Nat.add_assoc, Nat.add_comm 1]⟩
def rquo (s : List Nat) : AV :=
  let n := 1 + cnt pNq s.tail
  bif intBeq ↑n ↑s.length || !okT (s.tail.take (n - 1)) then .tup [tokA 0 [] 0 0, .int .i64 0] else .tup [tokA 3 (s.tail.take (n - 1)) 0 0, .int .i64 (↑n + 1)]
theorem rquo_run (s : List Nat) (hl : s.length < 140737488355328) (hs : 0 < s.length) : ∃ h1, evL env8 27 [.str s] ⟨.e, 0⟩ = some (rquo s, h1) := by
  rw [evL_fn env8 (by kernel_rfl) (by kernel_rfl) body27 _ _ rfl]
  simp only [codeAt, sub, Tryd.f27]
  simp [cdL_seq, cdL_region, cdL_drawn, cdL_cond, cdL_block, cdL_skip, cdL_label, cdL_exit, cdL_ret, endL, evSeq, evOne, evAct, evOp, opKind, evPure, evRead, evNew, evWrite, evSlice, natOf, optVal, readAt, AV.cells, wantedA, putTm, val, allVals, evBin, evInt, evStr, evAppend, denseFrom, sizesAre, onesIn, evPlan, recheck, AV.beq_refl, H.new, H.put, fillF, fillAt, allOne, AV.one, setArgs, evRes, resOf, ofVal, ofVal0, blt_dec, ble_dec, beq_dec, T.get_set_ite, T.get_e, isShift, ikBeq, ty_0, ty_1, ty_2, ty_3, ty_4, ty_5, ty_6, ty_7, ty_8, ty_9, ty_10, ty_11, ty_12, ty_13, ty_14, ty_15, ty_16, ty_17, ty_18, ty_19, ty_20, ty_21, ty_22, ty_23, ty_24, ty_25, ty_26, ty_27, ty_28, ty_29, ty_30, ty_31, ty_32, ty_33, ty_34, ty_35, ty_36, ty_37, ty_38, ty_39, ty_40, ty_41, ty_42, ty_43, ty_44, ty_45, ty_46, ty_47, ty_48, ty_49, ty_50, ty_51, ty_52, ty_53, ty_54, ty_55, ty_56, ty_57, ty_58, ty_59, ty_60, ty_61, ty_62, ty_63, ty_64, ty_65, ty_66, ty_67, ty_68, ty_69, ty_70, ty_71, ty_72, ty_73, ty_74, ty_75, ty_76, ty_77, ty_78, ty_79, ty_80, ty_81, ty_82, ty_83, ty_84, ty_85, ty_86, ty_87, ty_88, ty_89, ty_90, pl_4_17, pl_7_6, pl_10_6, pl_15_6, pl_18_3, pl_28_5, pl_43_9, pl_43_18, pl_44_9, e8ty, e8pl]
  generalize hx : cdL env8 27 35 (.loop b27_0) _ _ = x
  obtain ⟨tm', rfl, g0, g2, g4⟩ := loop27 (s := s) (by omega) (s.drop 1) 1 hx rfl hs (by simp [T.get_set_ite]) (by simp [T.get_set_ite])
  simp [T.get_set_ite] at g2
  have hn := cnt_le pNq s.tail
  rw [List.length_tail] at hn
  rw [List.drop_one] at g4
  unfold rquo
  simp only
  generalize hm : 1 + cnt pNq s.tail = m at *
  have hm1 : m ≤ s.length := by omega
  have hm2 : 1 ≤ m := by omega
  have ht : lenOk (s.tail.take (m - 1)) = true := lenOk_iff.2 (by simp; omega)
  have w1 := fun h => e8_37 h _ ht
  have hw := wr_succ (i := m) (by omega)
  cases h1 : intBeq ↑m ↑s.length <;> cases h2 : okT (s.tail.take (m - 1)) <;> simp [cdL_seq, cdL_region, cdL_drawn, cdL_cond, cdL_block, cdL_skip, cdL_label, cdL_exit, cdL_ret, endL, evSeq, evOne, evAct, evOp, opKind, evPure, evRead, evNew, evWrite, evSlice, natOf, optVal, readAt, AV.cells, wantedA, putTm, val, allVals, evBin, evInt, evStr, evAppend, denseFrom, sizesAre, onesIn, evPlan, recheck, AV.beq_refl, H.new, H.put, fillF, fillAt, allOne, AV.one, setArgs, evRes, resOf, ofVal, ofVal0, blt_dec, ble_dec, beq_dec, T.get_set_ite, T.get_e, isShift, ikBeq, ty_0, ty_1, ty_2, ty_3, ty_4, ty_5, ty_6, ty_7, ty_8, ty_9, ty_10, ty_11, ty_12, ty_13, ty_14, ty_15, ty_16, ty_17, ty_18, ty_19, ty_20, ty_21, ty_22, ty_23, ty_24, ty_25, ty_26, ty_27, ty_28, ty_29, ty_30, ty_31, ty_32, ty_33, ty_34, ty_35, ty_36, ty_37, ty_38, ty_39, ty_40, ty_41, ty_42, ty_43, ty_44, ty_45, ty_46, ty_47, ty_48, ty_49, ty_50, ty_51, ty_52, ty_53, ty_54, ty_55, ty_56, ty_57, ty_58, ty_59, ty_60, ty_61, ty_62, ty_63, ty_64, ty_65, ty_66, ty_67, ty_68, ty_69, ty_70, ty_71, ty_72, ty_73, ty_74, ty_75, ty_76, ty_77, ty_78, ty_79, ty_80, ty_81, ty_82, ty_83, ty_84, ty_85, ty_86, ty_87, ty_88, ty_89, ty_90, pl_4_17, pl_7_6, pl_10_6, pl_15_6, pl_18_3, pl_28_5, pl_43_9, pl_43_18, pl_44_9, e8ty, e8pl, g0, g2, g4, hm1, hm2, w1, h1, h2, hw, tokA]
end Go.Proofs.YtiifjjcoepgobaaDoor.Env
