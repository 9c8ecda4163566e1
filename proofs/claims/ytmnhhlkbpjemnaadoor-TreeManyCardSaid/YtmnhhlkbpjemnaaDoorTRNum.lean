/- The reference's name, number, string; the token that stands there. -/
import Derived.Test.YtmnhhlkbpjemnaaDoorTRText
set_option autoImplicit false
set_option maxRecDepth 100000
set_option linter.unusedSimpArgs false
set_option linter.unusedVariables false
namespace Go.Proofs.YtmnhhlkbpjemnaaDoor.Lx
open Go.Ev Go.Proofs.YtmnhhlkbpjemnaaDoor.Env

/-- A function of a text. -/
def lenOk (s : List Nat) : Bool := Nat.blt s.length 140737488355328
theorem lenOk_iff {s : List Nat} : lenOk s = true ↔ s.length < 140737488355328 := by simp [lenOk, blt_dec]
def pS (q : List Nat → Bool) (r : List Nat → AV) : List AV → Option AV
  | [.str s] => bif q s then some (r s) else none
  | _ => none
theorem pS_ok {E : Env} (hE : EnvOk Tryd.prog E) {f : Nat} {fn : Func} {q : List Nat → Bool} {r : List Nat → AV} (hfn : Tryd.prog.funcs[f]? = some fn) (hnm : (fn.name == "runtime.NumGoroutine") = false) (hb : fn.body.isNone = false)
    (hr : ∀ s, q s = true → (∃ h1, evL E f [.str s] ⟨.e, 0⟩ = some (r s, h1)) ∧ (r s).pure = true ∧ (r s).forget = r s) : PrimOk Tryd.prog f (primPure (pS q r)) := by
  refine pureL_ok hE hfn hnm hb fun args v hv => ?_
  unfold pS at hv
  split at hv
  · rename_i s
    cases hq : q s with
    | false => rw [hq] at hv; simp at hv
    | true =>
      rw [hq] at hv
      simp only [cond_true, Option.some.injEq] at hv
      subst hv
      obtain ⟨⟨h1, e⟩, h2, h3⟩ := hr s hq
      exact ⟨_, h1, e, h2, h3⟩
  · simp at hv
theorem pS_call {E : Env} {f : Nat} {q : List Nat → Bool} {r : List Nat → AV} (he : E.prim f = some (primPure (pS q r))) (h : H) (s : List Nat) (hq : q s = true) : evL E f [.str s] h = some (r s, h) := by
  rw [evL_prim E he]
  simp [primPure, AV.pures, AV.pure, AV.forgets, AV.forget, pS, hq]
def isW (v : List Nat) : Bool := wordsL.any (natsBeq · v)
noncomputable def env8 : Env := addPrim (addPrim env7 67 (primPure (pS lenOk fun s => .bool (isW s)))) 43 (primPure (pS lenOk fun s => .bool (okT s)))
theorem env8_ok : EnvOk Tryd.prog env8 :=
  addPrim_ok (addPrim_ok env7_ok
    (pS_ok env7_ok Tryd.func67 (by kernel_rfl) (by kernel_rfl) fun s _ => ⟨word_run s, rfl, rfl⟩))
    (pS_ok env7_ok Tryd.func43 (by kernel_rfl) (by kernel_rfl) fun s hs => ⟨rtext_run s (by have := lenOk_iff.1 hs; omega), rfl, rfl⟩)
theorem e8ty : env8.ty = env.ty := rfl
theorem e8pl : env8.plan = env.plan := rfl
theorem e8_36 (h : H) (s : List Nat) (hs : lenOk s = true) : evL env8 67 [.str s] h = some (.bool (isW s), h) := pS_call (r := fun s => .bool (isW s)) (by kernel_rfl) h s hs
theorem e8_37 (h : H) (s : List Nat) (hs : lenOk s = true) : evL env8 43 [.str s] h = some (.bool (okT s), h) := pS_call (r := fun s => .bool (okT s)) (by kernel_rfl) h s hs
theorem e8_23 (c : Int) (h : H) : evL env8 57 [.int .u8 c] h = some (.bool (pLetter c), h) := by
  rw [evL_prim env8 (f := 57) (p := primPure (pI pLetter)) (by kernel_rfl)]; rfl
theorem e8_25 (c : Int) (h : H) : evL env8 66 [.int .u8 c] h = some (.bool (pDigit c), h) := by
  rw [evL_prim env8 (f := 66) (p := primPure (pI pDigit)) (by kernel_rfl)]; rfl

/-! ### A name -/
noncomputable def b24_0 : Code := loopOf Tryd.f58 0
theorem body24 : Tryd.f58.body = some (.seq (codeAt Tryd.f58 [0]) (.seq (codeAt Tryd.f58 [1, 0]) (.seq (.block 0 (.loop b24_0)) (codeAt Tryd.f58 [1, 1, 1])))) := rfl
theorem loop24 {s : List Nat} (hl : s.length < 4611686018427387904) : ∀ (l : List Nat) (i : Nat) {tm : Tm} {h : H} {x : Option (Ex × Tm × H)}, cdL env8 58 52 (.loop b24_0) tm h = x → l = s.drop i → i ≤ s.length →
    tm.get 0 = some (.str s) → tm.get 4 = some (.int .i64 ↑i) → ∃ tm', x = some (.exit 0, tm', h) ∧ tm'.get 0 = some (.str s) ∧ tm'.get 2 = tm.get 2 ∧ tm'.get 4 = some (.int .i64 ↑(i + cnt pMore l))
  | [], i, tm, h, x, hx, hd, hi, h0, h4 => by
    have hlen := dnil hd hi
    obtain ⟨R, hR, hx⟩ := loop_step hx
    simp [b24_0, loopOf, Tryd.f58, loops, cdL_seq, cdL_region, cdL_drawn, cdL_cond, cdL_block, cdL_skip, cdL_label, cdL_exit, cdL_ret, endL, evSeq, evOne, evAct, evOp, opKind, evPure, evRead, evNew, evWrite, evSlice, natOf, optVal, readAt, AV.cells, wantedA, putTm, val, allVals, evBin, evInt, evStr, evAppend, evMin, denseFrom, sizesAre, onesIn, evPlan, recheck, AV.beq_refl, H.new, H.put, fillF, fillAt, allOne, AV.one, setArgs, evRes, resOf, ofVal, ofVal0, blt_dec, ble_dec, beq_dec, T.get_set_ite, T.get_e, isShift, ikBeq, ty_0, ty_1, ty_2, ty_3, ty_4, ty_5, ty_6, ty_7, ty_8, ty_9, ty_10, ty_11, ty_12, ty_13, ty_14, ty_15, ty_16, ty_17, ty_18, ty_19, ty_20, ty_21, ty_22, ty_23, ty_24, ty_25, ty_26, ty_27, ty_28, ty_29, ty_30, ty_31, ty_32, ty_33, ty_34, ty_35, ty_36, ty_37, ty_38, ty_39, ty_40, ty_41, ty_42, ty_43, ty_44, ty_45, ty_46, ty_47, ty_48, ty_49, ty_50, ty_51, ty_52, ty_53, ty_54, ty_55, ty_56, ty_57, ty_58, ty_59, ty_60, ty_61, ty_62, ty_63, ty_64, ty_65, ty_66, ty_67, ty_68, ty_69, ty_70, ty_71, ty_72, ty_73, ty_74, ty_75, ty_76, ty_77, ty_78, ty_79, ty_80, ty_81, ty_82, ty_83, ty_84, ty_85, ty_86, ty_87, ty_88, ty_89, ty_90, ty_91, ty_92, ty_93, ty_94, ty_95, ty_96, ty_97, ty_98, ty_99, ty_100, ty_101, ty_102, ty_103, ty_104, ty_105, ty_106, ty_107, ty_108, ty_109, ty_110, ty_111, ty_112, ty_113, ty_114, ty_115, ty_116, ty_117, ty_118, ty_119, ty_120, ty_121, ty_122, ty_123, ty_124, ty_125, ty_126, ty_127, ty_128, ty_129, pl_3_4, pl_4_3, pl_6_5, pl_9_1, pl_14_6, pl_18_6, pl_20_1, pl_29_6, pl_29_11, pl_30_3, pl_30_5, pl_30_9, pl_33_1, pl_33_10, pl_38_17, pl_46_4, pl_46_6, pl_47_10, pl_48_10, pl_50_3, pl_51_5, pl_51_11, pl_51_16, pl_51_17, pl_51_22, pl_51_23, pl_53_1, pl_53_3, pl_53_5, pl_53_8, pl_54_1, pl_54_3, pl_54_5, pl_54_8, pl_54_10, pl_54_13, pl_54_15, pl_54_18, pl_54_21, pl_60_3, pl_60_5, pl_60_6, pl_62_1, pl_62_2, pl_62_3, pl_69_1, pl_72_3, pl_88_9, pl_88_18, pl_89_9, lp, e8ty, e8pl, h0, h4, hlen, ltI_f] at hx
    exact ⟨_, by rw [← hx], by simp [T.get_set_ite, h0], by simp [T.get_set_ite], by simp [T.get_set_ite, cnt, h4]⟩
  | c :: l, i, tm, h, x, hx, hd, hi, h0, h4 => by
    obtain ⟨hlt, hc, hd'⟩ := dcons hd
    obtain ⟨R, hR, hx⟩ := loop_step hx
    have hlt' := ltI_t hlt
    have hw := wr_succ (i := i) (by omega)
    have hm : pMore ↑c = (pLetter ↑c || (pDigit ↑c || (intBeq ↑c 95 || intBeq ↑c 39))) := rfl
    have key : x = R tm h → True := fun _ => trivial
    cases h1 : pLetter ↑c <;> cases h2 : pDigit ↑c <;> cases h3 : intBeq ↑c 95 <;> cases h5 : intBeq ↑c 39 <;>
      simp [b24_0, loopOf, Tryd.f58, loops, cdL_seq, cdL_region, cdL_drawn, cdL_cond, cdL_block, cdL_skip, cdL_label, cdL_exit, cdL_ret, endL, evSeq, evOne, evAct, evOp, opKind, evPure, evRead, evNew, evWrite, evSlice, natOf, optVal, readAt, AV.cells, wantedA, putTm, val, allVals, evBin, evInt, evStr, evAppend, evMin, denseFrom, sizesAre, onesIn, evPlan, recheck, AV.beq_refl, H.new, H.put, fillF, fillAt, allOne, AV.one, setArgs, evRes, resOf, ofVal, ofVal0, blt_dec, ble_dec, beq_dec, T.get_set_ite, T.get_e, isShift, ikBeq, ty_0, ty_1, ty_2, ty_3, ty_4, ty_5, ty_6, ty_7, ty_8, ty_9, ty_10, ty_11, ty_12, ty_13, ty_14, ty_15, ty_16, ty_17, ty_18, ty_19, ty_20, ty_21, ty_22, ty_23, ty_24, ty_25, ty_26, ty_27, ty_28, ty_29, ty_30, ty_31, ty_32, ty_33, ty_34, ty_35, ty_36, ty_37, ty_38, ty_39, ty_40, ty_41, ty_42, ty_43, ty_44, ty_45, ty_46, ty_47, ty_48, ty_49, ty_50, ty_51, ty_52, ty_53, ty_54, ty_55, ty_56, ty_57, ty_58, ty_59, ty_60, ty_61, ty_62, ty_63, ty_64, ty_65, ty_66, ty_67, ty_68, ty_69, ty_70, ty_71, ty_72, ty_73, ty_74, ty_75, ty_76, ty_77, ty_78, ty_79, ty_80, ty_81, ty_82, ty_83, ty_84, ty_85, ty_86, ty_87, ty_88, ty_89, ty_90, ty_91, ty_92, ty_93, ty_94, ty_95, ty_96, ty_97, ty_98, ty_99, ty_100, ty_101, ty_102, ty_103, ty_104, ty_105, ty_106, ty_107, ty_108, ty_109, ty_110, ty_111, ty_112, ty_113, ty_114, ty_115, ty_116, ty_117, ty_118, ty_119, ty_120, ty_121, ty_122, ty_123, ty_124, ty_125, ty_126, ty_127, ty_128, ty_129, pl_3_4, pl_4_3, pl_6_5, pl_9_1, pl_14_6, pl_18_6, pl_20_1, pl_29_6, pl_29_11, pl_30_3, pl_30_5, pl_30_9, pl_33_1, pl_33_10, pl_38_17, pl_46_4, pl_46_6, pl_47_10, pl_48_10, pl_50_3, pl_51_5, pl_51_11, pl_51_16, pl_51_17, pl_51_22, pl_51_23, pl_53_1, pl_53_3, pl_53_5, pl_53_8, pl_54_1, pl_54_3, pl_54_5, pl_54_8, pl_54_10, pl_54_13, pl_54_15, pl_54_18, pl_54_21, pl_60_3, pl_60_5, pl_60_6, pl_62_1, pl_62_2, pl_62_3, pl_69_1, pl_72_3, pl_88_9, pl_88_18, pl_89_9, lp, e8ty, e8pl, e8_23, e8_25, h0, h4, hlt', hc, h1, h2, h3, h5, hw] at hx
    case false.false.false.false =>
      have e : cnt pMore (c :: l) = 0 := by simp [cnt, hm, h1, h2, h3, h5]
      rw [e]
      exact ⟨_, by rw [← hx], by simp [T.get_set_ite, h0], by simp [T.get_set_ite], by simp [T.get_set_ite, h4]⟩
    all_goals
      rw [hR] at hx
      have e : cnt pMore (c :: l) = cnt pMore l + 1 := by simp [cnt, hm, h1, h2, h3, h5]
      obtain ⟨tm', g0, g1, g2, g3⟩ := loop24 hl l (i + 1) hx hd' hlt (by simp [T.get_set_ite, h0]) (by simp [T.get_set_ite])
      exact ⟨tm', g0, g1, by rw [g2]; simp [T.get_set_ite], by rw [g3, e]; simp [Nat.add_assoc, Nat.add_comm 1]⟩
def rname (s : List Nat) : AV :=
  let n := 1 + cnt pMore (s.drop 1)
  bif isW (s.take n) then .tup [tokA 4 (s.take n) 0 0, .int .i64 ↑n] else bif ltI 12 ↑n then .tup [tokA 0 [] 0 0, .int .i64 0] else .tup [tokA 1 (s.take n) 0 0, .int .i64 ↑n]
theorem rname_run (s : List Nat) (hl : s.length < 140737488355328) (hs : 0 < s.length) : ∃ h1, evL env8 58 [.str s] ⟨.e, 0⟩ = some (rname s, h1) := by
  rw [evL_fn env8 (by kernel_rfl) (by kernel_rfl) body24 _ _ rfl]
  simp only [codeAt, sub, Tryd.f58]
  simp [cdL_seq, cdL_region, cdL_drawn, cdL_cond, cdL_block, cdL_skip, cdL_label, cdL_exit, cdL_ret, endL, evSeq, evOne, evAct, evOp, opKind, evPure, evRead, evNew, evWrite, evSlice, natOf, optVal, readAt, AV.cells, wantedA, putTm, val, allVals, evBin, evInt, evStr, evAppend, evMin, denseFrom, sizesAre, onesIn, evPlan, recheck, AV.beq_refl, H.new, H.put, fillF, fillAt, allOne, AV.one, setArgs, evRes, resOf, ofVal, ofVal0, blt_dec, ble_dec, beq_dec, T.get_set_ite, T.get_e, isShift, ikBeq, ty_0, ty_1, ty_2, ty_3, ty_4, ty_5, ty_6, ty_7, ty_8, ty_9, ty_10, ty_11, ty_12, ty_13, ty_14, ty_15, ty_16, ty_17, ty_18, ty_19, ty_20, ty_21, ty_22, ty_23, ty_24, ty_25, ty_26, ty_27, ty_28, ty_29, ty_30, ty_31, ty_32, ty_33, ty_34, ty_35, ty_36, ty_37, ty_38, ty_39, ty_40, ty_41, ty_42, ty_43, ty_44, ty_45, ty_46, ty_47, ty_48, ty_49, ty_50, ty_51, ty_52, ty_53, ty_54, ty_55, ty_56, ty_57, ty_58, ty_59, ty_60, ty_61, ty_62, ty_63, ty_64, ty_65, ty_66, ty_67, ty_68, ty_69, ty_70, ty_71, ty_72, ty_73, ty_74, ty_75, ty_76, ty_77, ty_78, ty_79, ty_80, ty_81, ty_82, ty_83, ty_84, ty_85, ty_86, ty_87, ty_88, ty_89, ty_90, ty_91, ty_92, ty_93, ty_94, ty_95, ty_96, ty_97, ty_98, ty_99, ty_100, ty_101, ty_102, ty_103, ty_104, ty_105, ty_106, ty_107, ty_108, ty_109, ty_110, ty_111, ty_112, ty_113, ty_114, ty_115, ty_116, ty_117, ty_118, ty_119, ty_120, ty_121, ty_122, ty_123, ty_124, ty_125, ty_126, ty_127, ty_128, ty_129, pl_3_4, pl_4_3, pl_6_5, pl_9_1, pl_14_6, pl_18_6, pl_20_1, pl_29_6, pl_29_11, pl_30_3, pl_30_5, pl_30_9, pl_33_1, pl_33_10, pl_38_17, pl_46_4, pl_46_6, pl_47_10, pl_48_10, pl_50_3, pl_51_5, pl_51_11, pl_51_16, pl_51_17, pl_51_22, pl_51_23, pl_53_1, pl_53_3, pl_53_5, pl_53_8, pl_54_1, pl_54_3, pl_54_5, pl_54_8, pl_54_10, pl_54_13, pl_54_15, pl_54_18, pl_54_21, pl_60_3, pl_60_5, pl_60_6, pl_62_1, pl_62_2, pl_62_3, pl_69_1, pl_72_3, pl_88_9, pl_88_18, pl_89_9, e8ty, e8pl]
  generalize hx : cdL env8 58 52 (.loop b24_0) _ _ = x
  obtain ⟨tm', rfl, g0, g2, g4⟩ := loop24 (s := s) (by omega) (s.drop 1) 1 hx rfl hs (by simp [T.get_set_ite]) (by simp [T.get_set_ite])
  simp [T.get_set_ite] at g2
  have hn := cnt_le pMore (s.drop 1)
  rw [List.length_drop] at hn
  unfold rname
  simp only
  generalize hm : 1 + cnt pMore (s.drop 1) = m at *
  have hm1 : m ≤ s.length := by omega
  have ht : lenOk (s.take m) = true := lenOk_iff.2 (by simp; omega)
  have w1 := fun h => e8_36 h (s.take m) ht
  cases h1 : isW (s.take m) with
  | true => simp [cdL_seq, cdL_region, cdL_drawn, cdL_cond, cdL_block, cdL_skip, cdL_label, cdL_exit, cdL_ret, endL, evSeq, evOne, evAct, evOp, opKind, evPure, evRead, evNew, evWrite, evSlice, natOf, optVal, readAt, AV.cells, wantedA, putTm, val, allVals, evBin, evInt, evStr, evAppend, evMin, denseFrom, sizesAre, onesIn, evPlan, recheck, AV.beq_refl, H.new, H.put, fillF, fillAt, allOne, AV.one, setArgs, evRes, resOf, ofVal, ofVal0, blt_dec, ble_dec, beq_dec, T.get_set_ite, T.get_e, isShift, ikBeq, ty_0, ty_1, ty_2, ty_3, ty_4, ty_5, ty_6, ty_7, ty_8, ty_9, ty_10, ty_11, ty_12, ty_13, ty_14, ty_15, ty_16, ty_17, ty_18, ty_19, ty_20, ty_21, ty_22, ty_23, ty_24, ty_25, ty_26, ty_27, ty_28, ty_29, ty_30, ty_31, ty_32, ty_33, ty_34, ty_35, ty_36, ty_37, ty_38, ty_39, ty_40, ty_41, ty_42, ty_43, ty_44, ty_45, ty_46, ty_47, ty_48, ty_49, ty_50, ty_51, ty_52, ty_53, ty_54, ty_55, ty_56, ty_57, ty_58, ty_59, ty_60, ty_61, ty_62, ty_63, ty_64, ty_65, ty_66, ty_67, ty_68, ty_69, ty_70, ty_71, ty_72, ty_73, ty_74, ty_75, ty_76, ty_77, ty_78, ty_79, ty_80, ty_81, ty_82, ty_83, ty_84, ty_85, ty_86, ty_87, ty_88, ty_89, ty_90, ty_91, ty_92, ty_93, ty_94, ty_95, ty_96, ty_97, ty_98, ty_99, ty_100, ty_101, ty_102, ty_103, ty_104, ty_105, ty_106, ty_107, ty_108, ty_109, ty_110, ty_111, ty_112, ty_113, ty_114, ty_115, ty_116, ty_117, ty_118, ty_119, ty_120, ty_121, ty_122, ty_123, ty_124, ty_125, ty_126, ty_127, ty_128, ty_129, pl_3_4, pl_4_3, pl_6_5, pl_9_1, pl_14_6, pl_18_6, pl_20_1, pl_29_6, pl_29_11, pl_30_3, pl_30_5, pl_30_9, pl_33_1, pl_33_10, pl_38_17, pl_46_4, pl_46_6, pl_47_10, pl_48_10, pl_50_3, pl_51_5, pl_51_11, pl_51_16, pl_51_17, pl_51_22, pl_51_23, pl_53_1, pl_53_3, pl_53_5, pl_53_8, pl_54_1, pl_54_3, pl_54_5, pl_54_8, pl_54_10, pl_54_13, pl_54_15, pl_54_18, pl_54_21, pl_60_3, pl_60_5, pl_60_6, pl_62_1, pl_62_2, pl_62_3, pl_69_1, pl_72_3, pl_88_9, pl_88_18, pl_89_9, e8ty, e8pl, g0, g2, g4, hm1, w1, h1, tokA]
  | false =>
    cases h2 : ltI 12 ↑m with
    | true => simp [cdL_seq, cdL_region, cdL_drawn, cdL_cond, cdL_block, cdL_skip, cdL_label, cdL_exit, cdL_ret, endL, evSeq, evOne, evAct, evOp, opKind, evPure, evRead, evNew, evWrite, evSlice, natOf, optVal, readAt, AV.cells, wantedA, putTm, val, allVals, evBin, evInt, evStr, evAppend, evMin, denseFrom, sizesAre, onesIn, evPlan, recheck, AV.beq_refl, H.new, H.put, fillF, fillAt, allOne, AV.one, setArgs, evRes, resOf, ofVal, ofVal0, blt_dec, ble_dec, beq_dec, T.get_set_ite, T.get_e, isShift, ikBeq, ty_0, ty_1, ty_2, ty_3, ty_4, ty_5, ty_6, ty_7, ty_8, ty_9, ty_10, ty_11, ty_12, ty_13, ty_14, ty_15, ty_16, ty_17, ty_18, ty_19, ty_20, ty_21, ty_22, ty_23, ty_24, ty_25, ty_26, ty_27, ty_28, ty_29, ty_30, ty_31, ty_32, ty_33, ty_34, ty_35, ty_36, ty_37, ty_38, ty_39, ty_40, ty_41, ty_42, ty_43, ty_44, ty_45, ty_46, ty_47, ty_48, ty_49, ty_50, ty_51, ty_52, ty_53, ty_54, ty_55, ty_56, ty_57, ty_58, ty_59, ty_60, ty_61, ty_62, ty_63, ty_64, ty_65, ty_66, ty_67, ty_68, ty_69, ty_70, ty_71, ty_72, ty_73, ty_74, ty_75, ty_76, ty_77, ty_78, ty_79, ty_80, ty_81, ty_82, ty_83, ty_84, ty_85, ty_86, ty_87, ty_88, ty_89, ty_90, ty_91, ty_92, ty_93, ty_94, ty_95, ty_96, ty_97, ty_98, ty_99, ty_100, ty_101, ty_102, ty_103, ty_104, ty_105, ty_106, ty_107, ty_108, ty_109, ty_110, ty_111, ty_112, ty_113, ty_114, ty_115, ty_116, ty_117, ty_118, ty_119, ty_120, ty_121, ty_122, ty_123, ty_124, ty_125, ty_126, ty_127, ty_128, ty_129, pl_3_4, pl_4_3, pl_6_5, pl_9_1, pl_14_6, pl_18_6, pl_20_1, pl_29_6, pl_29_11, pl_30_3, pl_30_5, pl_30_9, pl_33_1, pl_33_10, pl_38_17, pl_46_4, pl_46_6, pl_47_10, pl_48_10, pl_50_3, pl_51_5, pl_51_11, pl_51_16, pl_51_17, pl_51_22, pl_51_23, pl_53_1, pl_53_3, pl_53_5, pl_53_8, pl_54_1, pl_54_3, pl_54_5, pl_54_8, pl_54_10, pl_54_13, pl_54_15, pl_54_18, pl_54_21, pl_60_3, pl_60_5, pl_60_6, pl_62_1, pl_62_2, pl_62_3, pl_69_1, pl_72_3, pl_88_9, pl_88_18, pl_89_9, e8ty, e8pl, g0, g2, g4, hm1, w1, h1, h2, tokA]
    | false => simp [cdL_seq, cdL_region, cdL_drawn, cdL_cond, cdL_block, cdL_skip, cdL_label, cdL_exit, cdL_ret, endL, evSeq, evOne, evAct, evOp, opKind, evPure, evRead, evNew, evWrite, evSlice, natOf, optVal, readAt, AV.cells, wantedA, putTm, val, allVals, evBin, evInt, evStr, evAppend, evMin, denseFrom, sizesAre, onesIn, evPlan, recheck, AV.beq_refl, H.new, H.put, fillF, fillAt, allOne, AV.one, setArgs, evRes, resOf, ofVal, ofVal0, blt_dec, ble_dec, beq_dec, T.get_set_ite, T.get_e, isShift, ikBeq, ty_0, ty_1, ty_2, ty_3, ty_4, ty_5, ty_6, ty_7, ty_8, ty_9, ty_10, ty_11, ty_12, ty_13, ty_14, ty_15, ty_16, ty_17, ty_18, ty_19, ty_20, ty_21, ty_22, ty_23, ty_24, ty_25, ty_26, ty_27, ty_28, ty_29, ty_30, ty_31, ty_32, ty_33, ty_34, ty_35, ty_36, ty_37, ty_38, ty_39, ty_40, ty_41, ty_42, ty_43, ty_44, ty_45, ty_46, ty_47, ty_48, ty_49, ty_50, ty_51, ty_52, ty_53, ty_54, ty_55, ty_56, ty_57, ty_58, ty_59, ty_60, ty_61, ty_62, ty_63, ty_64, ty_65, ty_66, ty_67, ty_68, ty_69, ty_70, ty_71, ty_72, ty_73, ty_74, ty_75, ty_76, ty_77, ty_78, ty_79, ty_80, ty_81, ty_82, ty_83, ty_84, ty_85, ty_86, ty_87, ty_88, ty_89, ty_90, ty_91, ty_92, ty_93, ty_94, ty_95, ty_96, ty_97, ty_98, ty_99, ty_100, ty_101, ty_102, ty_103, ty_104, ty_105, ty_106, ty_107, ty_108, ty_109, ty_110, ty_111, ty_112, ty_113, ty_114, ty_115, ty_116, ty_117, ty_118, ty_119, ty_120, ty_121, ty_122, ty_123, ty_124, ty_125, ty_126, ty_127, ty_128, ty_129, pl_3_4, pl_4_3, pl_6_5, pl_9_1, pl_14_6, pl_18_6, pl_20_1, pl_29_6, pl_29_11, pl_30_3, pl_30_5, pl_30_9, pl_33_1, pl_33_10, pl_38_17, pl_46_4, pl_46_6, pl_47_10, pl_48_10, pl_50_3, pl_51_5, pl_51_11, pl_51_16, pl_51_17, pl_51_22, pl_51_23, pl_53_1, pl_53_3, pl_53_5, pl_53_8, pl_54_1, pl_54_3, pl_54_5, pl_54_8, pl_54_10, pl_54_13, pl_54_15, pl_54_18, pl_54_21, pl_60_3, pl_60_5, pl_60_6, pl_62_1, pl_62_2, pl_62_3, pl_69_1, pl_72_3, pl_88_9, pl_88_18, pl_89_9, e8ty, e8pl, g0, g2, g4, hm1, w1, h1, h2, tokA]

end Go.Proofs.YtmnhhlkbpjemnaaDoor.Lx
