/- All tokens of a text, told as a function; the program's loop comes to it. -/
import Derived.Test.YtncccgglillmoaaGreatDoorZTLToks
import Derived.Test.YtncccgglillmoaaGreatDoorZFacts
set_option autoImplicit false
set_option maxRecDepth 100000
set_option linter.unusedSimpArgs false
set_option linter.unusedVariables false
set_option linter.unusedSectionVars false
namespace Go.Proofs.YtncccgglillmoaaGreatDoor.Lx
open Go.Ev Go.Proofs.YtncccgglillmoaaGreatDoor.Env

theorem cnt_pos {q : Int → Bool} {s : List Nat} {a c : Nat} (hc : s[a]? = some c) (hq : q ↑c = true) : 0 < cnt q (s.drop a) := by
  have h : s.drop a = c :: s.drop (a + 1) := by
    have hlt := getElem?_lt hc
    rw [List.drop_eq_getElem_cons hlt]
    rw [List.getElem?_eq_getElem hlt] at hc
    simp only [Option.some.injEq] at hc
    rw [hc]
  rw [h]
  simp [cnt, hq]
theorem firstF_len {d : List Nat} : ∀ {ws : List (List Nat)} {w : List Nat}, firstF d ws = some w → w ∈ ws ∧ w.length ≤ d.length
  | [], w, h => by simp [firstF] at h
  | x :: l, w, h => by
    simp only [firstF] at h
    cases hb : preF d x with
    | true =>
      rw [hb] at h
      simp only [cond_true, Option.some.injEq] at h
      subst h
      refine ⟨List.mem_cons_self .., ?_⟩
      simp only [preF, Bool.and_eq_true, Bool.not_eq_true'] at hb
      have := hb.1
      rw [ltI_nat] at this
      simpa using this
    | false =>
      rw [hb] at h
      obtain ⟨h1, h2⟩ := firstF_len h
      exact ⟨List.mem_cons_of_mem _ h1, h2⟩
/-- A token has a byte, and lies in the text. -/
theorem tok_len {s : List Nat} {a c : Nat} (hc : s[a]? = some c) {t : AV} {n : Int} (h : tokRes s a = .tup [t, .int .i64 n, .bool true]) : ∃ m : Nat, n = ↑m ∧ 0 < m ∧ a + m ≤ s.length := by
  have hlt := getElem?_lt hc
  unfold tokRes at h
  rw [hc] at h
  simp only at h
  cases h1 : pLetter ↑c with
  | true =>
    rw [h1] at h
    simp only [cond_true, nameRes, AV.tup.injEq, List.cons.injEq, AV.int.injEq, true_and] at h
    have hp := cnt_pos (q := pMore) hc (by simp [pMore, h1])
    have hl := cnt_le pMore (s.drop a)
    rw [List.length_drop] at hl
    exact ⟨_, h.2.1.symm, hp, by omega⟩
  | false =>
    rw [h1] at h
    cases h2 : pDigit ↑c with
    | true =>
      rw [h2] at h
      simp only [cond_true, cond_false, numRes] at h
      have hp := cnt_pos (q := pDigit) hc h2
      have hl := cnt_le pDigit (s.drop a)
      rw [List.length_drop] at hl
      cases hb : numBad s a (cnt pDigit (s.drop a)) with
      | true => rw [hb] at h; simp at h
      | false =>
        rw [hb] at h
        simp only [cond_false, AV.tup.injEq, List.cons.injEq, AV.int.injEq, true_and] at h
        exact ⟨_, h.2.1.symm, hp, by omega⟩
    | false =>
      rw [h2] at h
      cases h3 : intBeq ↑c 34 with
      | true =>
        rw [h3] at h
        simp only [cond_true, cond_false, textRes, AV.tup.injEq, List.cons.injEq, AV.int.injEq, true_and, AV.bool.injEq, and_true] at h
        have hl := cnt_le pPlain (s.drop (a + 1))
        rw [List.length_drop] at hl
        obtain ⟨_, h5, h6⟩ := h
        unfold okText at h6
        cases he : s[a + 1 + cnt pPlain (s.drop (a + 1))]? with
        | none => rw [he] at h6; simp at h6
        | some e =>
          have := getElem?_lt he
          exact ⟨cnt pPlain (s.drop (a + 1)) + 2, by rw [← h5], by omega, by omega⟩
      | false =>
        rw [h3] at h
        simp only [cond_false, signRes] at h
        cases hf : firstF (s.drop a) signsL with
        | none => rw [hf] at h; simp at h
        | some w =>
          rw [hf] at h
          simp only [AV.tup.injEq, List.cons.injEq, AV.int.injEq, true_and] at h
          obtain ⟨g1, g2⟩ := firstF_len hf
          have hw : ∀ w ∈ signsL, 0 < w.length := by decide
          have := hw w g1
          rw [List.length_drop] at g2
          exact ⟨_, h.2.1.symm, this, by omega⟩
end Go.Proofs.YtncccgglillmoaaGreatDoor.Lx
/- The reference's look-up of a word; what may stand in a string. -/
namespace Go.Proofs.YtncccgglillmoaaGreatDoor.Lx
open Go.Ev Go.Proofs.YtncccgglillmoaaGreatDoor.Env

theorem e7ty : env7.ty = env.ty := rfl
theorem e7pl : env7.plan = env.plan := rfl
theorem rwordsL (h : H) : evL env7 129 [] h = some (.sl .full (wordsL.map .str), h) := by
  rw [evL_prim env7 (f := 129) (p := primPure (pK (.sl .full (wordsL.map .str)))) (by kernel_rfl)]; rfl
noncomputable def b36_0 : Code := loopOf Tryz.f111 0
theorem body36 : Tryz.f111.body = some (.seq (codeAt Tryz.f111 [0]) (.seq (codeAt Tryz.f111 [1, 0]) (.seq (.seq (codeAt Tryz.f111 [1, 1, 0, 0]) (.block 0 (.loop b36_0))) (codeAt Tryz.f111 [1, 1, 1])))) := rfl
theorem loop36 {v : List Nat} {ws : List (List Nat)} (hl : ws.length < 4611686018427387904) : ∀ (l : List (List Nat)) (i : Nat) {tm : Tm} {h : H} {x : Option (Ex × Tm × H)}, cdL env7 111 18 (.loop b36_0) tm h = x → l = ws.drop i → i ≤ ws.length →
    tm.get 0 = some (.str v) → tm.get 3 = some (.sl .full (ws.map .str)) → tm.get 4 = some (.int .i64 ↑i) → ∃ tm', x = some (bif l.any (natsBeq · v) then .ret else .exit 0, tm', h) ∧ (l.any (natsBeq · v) = true → tm'.get 2 = some (.bool true))
  | [], i, tm, h, x, hx, hd, hi, h0, h3, h4 => by
    have hlen : ws.length = i := by have := congrArg List.length hd; simp at this; omega
    obtain ⟨R, hR, hx⟩ := loop_step hx
    simp [b36_0, loopOf, Tryz.f111, loops, EVT, endL, evSeq, evOne, evAct, evOp, opKind, evPure, evRead, evNew, evWrite, evSlice, natOf, optVal, readAt, AV.cells, wantedA, putTm, val, allVals, evBin, evInt, evStr, evAppend, evMin, nilCmp, denseFrom, sizesAre, onesIn, evPlan, recheck, H.new, H.put, fillF, fillAt, allOne, AV.one, setArgs, evRes, resOf, ofVal, ofVal0, isShift, ikBeq, TYC, lp, e7ty, e7pl, h0, h3, h4, ltI_nat, hlen] at hx
    exact ⟨_, by rw [← hx]; rfl, by simp⟩
  | w :: l, i, tm, h, x, hx, hd, hi, h0, h3, h4 => by
    have hlt : i < ws.length := by have := congrArg List.length hd; simp at this; omega
    have hw : ws[i]? = some w := by have : (ws.drop i)[0]? = some w := by rw [← hd]; rfl
                                    simpa using this
    have hd' : l = ws.drop (i + 1) := by have := congrArg List.tail hd; simpa [List.tail_drop] using this
    obtain ⟨R, hR, hx⟩ := loop_step hx
    cases hb : natsBeq w v with
    | true =>
      simp [b36_0, loopOf, Tryz.f111, loops, EVT, endL, evSeq, evOne, evAct, evOp, opKind, evPure, evRead, evNew, evWrite, evSlice, natOf, optVal, readAt, AV.cells, wantedA, putTm, val, allVals, evBin, evInt, evStr, evAppend, evMin, nilCmp, denseFrom, sizesAre, onesIn, evPlan, recheck, H.new, H.put, fillF, fillAt, allOne, AV.one, setArgs, evRes, resOf, ofVal, ofVal0, isShift, ikBeq, TYC, lp, e7ty, e7pl, h0, h3, h4, ltI_t hlt, hw, hb] at hx
      exact ⟨_, by rw [← hx]; simp [hb]; rfl, by simp [T.get_set_ite]⟩
    | false =>
      simp [b36_0, loopOf, Tryz.f111, loops, EVT, endL, evSeq, evOne, evAct, evOp, opKind, evPure, evRead, evNew, evWrite, evSlice, natOf, optVal, readAt, AV.cells, wantedA, putTm, val, allVals, evBin, evInt, evStr, evAppend, evMin, nilCmp, denseFrom, sizesAre, onesIn, evPlan, recheck, H.new, H.put, fillF, fillAt, allOne, AV.one, setArgs, evRes, resOf, ofVal, ofVal0, isShift, ikBeq, TYC, lp, e7ty, e7pl, h0, h3, h4, ltI_t hlt, hw, hb, wr_succ (i := i) (by omega)] at hx
      rw [hR] at hx
      simp only [List.any_cons, hb, Bool.false_or]
      exact loop36 hl l (i + 1) hx hd' hlt (by simp [T.get_set_ite, h0]) (by simp [T.get_set_ite, h3]) (by simp [T.get_set_ite])
theorem word_run (v : List Nat) : ∃ h1, evL env7 111 [.str v] ⟨.e, 0⟩ = some (.bool (wordsL.any (natsBeq · v)), h1) := by
  rw [evL_fn env7 (by kernel_rfl) (by kernel_rfl) body36 _ _ rfl]
  simp only [codeAt, sub, Tryz.f111]
  simp [EVT, endL, evSeq, evOne, evAct, evOp, opKind, evPure, evRead, evNew, evWrite, evSlice, natOf, optVal, readAt, AV.cells, wantedA, putTm, val, allVals, evBin, evInt, evStr, evAppend, evMin, nilCmp, denseFrom, sizesAre, onesIn, evPlan, recheck, H.new, H.put, fillF, fillAt, allOne, AV.one, setArgs, evRes, resOf, ofVal, ofVal0, isShift, ikBeq, TYC, e7ty, e7pl, rwordsL]
  generalize hx : cdL env7 111 18 (.loop b36_0) _ _ = x
  obtain ⟨tm', rfl, g⟩ := loop36 (v := v) (ws := wordsL) (by decide) wordsL 0 hx rfl (by decide) (by simp [T.get_set_ite]) (by simp [T.get_set_ite]) (by simp [T.get_set_ite])
  cases hb : wordsL.any (natsBeq · v) with
  | true => simp [EVT, endL, evSeq, evOne, evAct, evOp, opKind, evPure, evRead, evNew, evWrite, evSlice, natOf, optVal, readAt, AV.cells, wantedA, putTm, val, allVals, evBin, evInt, evStr, evAppend, evMin, nilCmp, denseFrom, sizesAre, onesIn, evPlan, recheck, H.new, H.put, fillF, fillAt, allOne, AV.one, setArgs, evRes, resOf, ofVal, ofVal0, isShift, ikBeq, TYC, e7ty, e7pl, g hb]
  | false => simp [EVT, endL, evSeq, evOne, evAct, evOp, opKind, evPure, evRead, evNew, evWrite, evSlice, natOf, optVal, readAt, AV.cells, wantedA, putTm, val, allVals, evBin, evInt, evStr, evAppend, evMin, nilCmp, denseFrom, sizesAre, onesIn, evPlan, recheck, H.new, H.put, fillF, fillAt, allOne, AV.one, setArgs, evRes, resOf, ofVal, ofVal0, isShift, ikBeq, TYC, e7ty, e7pl]
end Go.Proofs.YtncccgglillmoaaGreatDoor.Lx
/- The reference's tokens, one kind after the other. -/
namespace Go.Proofs.YtncccgglillmoaaGreatDoor.Lx
open Go.Ev Go.Proofs.YtncccgglillmoaaGreatDoor.Env

noncomputable def b37_0 : Code := loopOf Tryz.f112 0
theorem body37 : Tryz.f112.body = some (.seq (codeAt Tryz.f112 [0]) (.seq (.seq (codeAt Tryz.f112 [1, 0, 0]) (.block 0 (.loop b37_0))) (codeAt Tryz.f112 [1, 1]))) := rfl
def allP (l : List Nat) : Bool := l.all fun c => pPlain ↑c
theorem loop37 {s : List Nat} (hl : s.length < 4611686018427387904) : ∀ (l : List Nat) (i : Nat) {tm : Tm} {h : H} {x : Option (Ex × Tm × H)}, cdL env7 112 29 (.loop b37_0) tm h = x → l = s.drop i → i ≤ s.length →
    tm.get 0 = some (.str s) → tm.get 3 = some (.int .i64 ↑i) → ∃ tm', x = some (bif allP l then .exit 0 else .ret, tm', h) ∧ (allP l = true → tm'.get 0 = some (.str s)) ∧ (allP l = false → tm'.get 2 = some (.bool false))
  | [], i, tm, h, x, hx, hd, hi, h0, h3 => by
    have hlen := dnil hd hi
    obtain ⟨R, hR, hx⟩ := loop_step hx
    simp [b37_0, loopOf, Tryz.f112, loops, EVT, endL, evSeq, evOne, evAct, evOp, opKind, evPure, evRead, evNew, evWrite, evSlice, natOf, optVal, readAt, AV.cells, wantedA, putTm, val, allVals, evBin, evInt, evStr, evAppend, evMin, nilCmp, denseFrom, sizesAre, onesIn, evPlan, recheck, H.new, H.put, fillF, fillAt, allOne, AV.one, setArgs, evRes, resOf, ofVal, ofVal0, isShift, ikBeq, TYC, lp, e7ty, e7pl, h0, h3, hlen, ltI_f] at hx
    exact ⟨_, by rw [← hx]; rfl, by simp [T.get_set_ite, h0], by simp [allP]⟩
  | c :: l, i, tm, h, x, hx, hd, hi, h0, h3 => by
    obtain ⟨hlt, hc, hd'⟩ := dcons hd
    obtain ⟨R, hR, hx⟩ := loop_step hx
    have hlt' := ltI_t hlt
    have hw := wr_succ (i := i) (by omega)
    cases h1 : ltI ↑c 32 <;> cases h2 : ltI 126 ↑c <;> cases h3' : intBeq ↑c 34 <;>
      simp [b37_0, loopOf, Tryz.f112, loops, EVT, endL, evSeq, evOne, evAct, evOp, opKind, evPure, evRead, evNew, evWrite, evSlice, natOf, optVal, readAt, AV.cells, wantedA, putTm, val, allVals, evBin, evInt, evStr, evAppend, evMin, nilCmp, denseFrom, sizesAre, onesIn, evPlan, recheck, H.new, H.put, fillF, fillAt, allOne, AV.one, setArgs, evRes, resOf, ofVal, ofVal0, isShift, ikBeq, TYC, lp, e7ty, e7pl, h0, h3, hlt', hc, h1, h2, h3', hw] at hx
    case false.false.false =>
      rw [hR] at hx
      have e : allP (c :: l) = allP l := by simp [allP, pPlain, h1, h2, h3']
      rw [e]
      exact loop37 hl l (i + 1) hx hd' hlt (by simp [T.get_set_ite, h0]) (by simp [T.get_set_ite])
    all_goals
      have e : allP (c :: l) = false := by simp [allP, pPlain, h1, h2, h3']
      rw [e]
      exact ⟨_, by rw [← hx]; rfl, by simp, by simp [T.get_set_ite]⟩
def okT (s : List Nat) : Bool := allP s && !ltI 40 ↑s.length
theorem rtext_run (s : List Nat) (hl : s.length < 4611686018427387904) : ∃ h1, evL env7 112 [.str s] ⟨.e, 0⟩ = some (.bool (okT s), h1) := by
  rw [evL_fn env7 (by kernel_rfl) (by kernel_rfl) body37 _ _ rfl]
  simp only [codeAt, sub, Tryz.f112]
  simp [EVT, endL, evSeq, evOne, evAct, evOp, opKind, evPure, evRead, evNew, evWrite, evSlice, natOf, optVal, readAt, AV.cells, wantedA, putTm, val, allVals, evBin, evInt, evStr, evAppend, evMin, nilCmp, denseFrom, sizesAre, onesIn, evPlan, recheck, H.new, H.put, fillF, fillAt, allOne, AV.one, setArgs, evRes, resOf, ofVal, ofVal0, isShift, ikBeq, TYC, e7ty, e7pl]
  generalize hx : cdL env7 112 29 (.loop b37_0) _ _ = x
  obtain ⟨tm', rfl, g1, g2⟩ := loop37 (s := s) hl s 0 hx rfl (Nat.zero_le _) (by simp [T.get_set_ite]) (by simp [T.get_set_ite])
  cases hb : allP s with
  | true => simp [EVT, endL, evSeq, evOne, evAct, evOp, opKind, evPure, evRead, evNew, evWrite, evSlice, natOf, optVal, readAt, AV.cells, wantedA, putTm, val, allVals, evBin, evInt, evStr, evAppend, evMin, nilCmp, denseFrom, sizesAre, onesIn, evPlan, recheck, H.new, H.put, fillF, fillAt, allOne, AV.one, setArgs, evRes, resOf, ofVal, ofVal0, isShift, ikBeq, TYC, e7ty, e7pl, g1 hb, okT, hb]
  | false => simp [EVT, endL, evSeq, evOne, evAct, evOp, opKind, evPure, evRead, evNew, evWrite, evSlice, natOf, optVal, readAt, AV.cells, wantedA, putTm, val, allVals, evBin, evInt, evStr, evAppend, evMin, nilCmp, denseFrom, sizesAre, onesIn, evPlan, recheck, H.new, H.put, fillF, fillAt, allOne, AV.one, setArgs, evRes, resOf, ofVal, ofVal0, isShift, ikBeq, TYC, e7ty, e7pl, g2 hb, okT, hb]

/-! ### A sign -/
end Go.Proofs.YtncccgglillmoaaGreatDoor.Lx
/- The reference's name, number, string; the token that stands there. -/
namespace Go.Proofs.YtncccgglillmoaaGreatDoor.Lx
open Go.Ev Go.Proofs.YtncccgglillmoaaGreatDoor.Env

/-- A function of a text. -/
def lenOk (s : List Nat) : Bool := Nat.blt s.length 140737488355328
theorem lenOk_iff {s : List Nat} : lenOk s = true ↔ s.length < 140737488355328 := by simp [lenOk, blt_dec]
def pS (q : List Nat → Bool) (r : List Nat → AV) : List AV → Option AV
  | [.str s] => bif q s then some (r s) else none
  | _ => none
theorem pS_ok {E : Env} (hE : EnvOk Tryz.prog E) {f : Nat} {fn : Func} {q : List Nat → Bool} {r : List Nat → AV} (hfn : Tryz.prog.funcs[f]? = some fn) (hnm : (fn.name == "runtime.NumGoroutine") = false) (hb : fn.body.isNone = false)
    (hr : ∀ s, q s = true → (∃ h1, evL E f [.str s] ⟨.e, 0⟩ = some (r s, h1)) ∧ (r s).pure = true ∧ (r s).forget = r s) : PrimOk Tryz.prog f (primPure (pS q r)) := by
  refine pureL_ok hE hfn hnm hb fun args v hv => ?_
  unfold pS at hv
  split at hv
  · rename_i s
    cases hq : q s with
    | false => rw [hq] at hv; simp at hv
    | true =>
      rw [hq] at hv
      simp only [cond_true, Option.some.injEq] at hv
      subst hv
      obtain ⟨⟨h1, e⟩, h2, h3⟩ := hr s hq
      exact ⟨_, h1, e, h2, h3⟩
  · simp at hv
theorem pS_call {E : Env} {f : Nat} {q : List Nat → Bool} {r : List Nat → AV} (he : E.prim f = some (primPure (pS q r))) (h : H) (s : List Nat) (hq : q s = true) : evL E f [.str s] h = some (r s, h) := by
  rw [evL_prim E he]
  simp [primPure, AV.pures, AV.pure, AV.forgets, AV.forget, pS, hq]
def isW (v : List Nat) : Bool := wordsL.any (natsBeq · v)
noncomputable def env8 : Env := addPrim (addPrim env7 111 (primPure (pS lenOk fun s => .bool (isW s)))) 112 (primPure (pS lenOk fun s => .bool (okT s)))
theorem env8_ok : EnvOk Tryz.prog env8 :=
  addPrim_ok (addPrim_ok env7_ok
    (pS_ok env7_ok Tryz.func111 (by kernel_rfl) (by kernel_rfl) fun s _ => ⟨word_run s, rfl, rfl⟩))
    (pS_ok env7_ok Tryz.func112 (by kernel_rfl) (by kernel_rfl) fun s hs => ⟨rtext_run s (by have := lenOk_iff.1 hs; omega), rfl, rfl⟩)
theorem e8ty : env8.ty = env.ty := rfl
theorem e8pl : env8.plan = env.plan := rfl
theorem e8_36 (h : H) (s : List Nat) (hs : lenOk s = true) : evL env8 111 [.str s] h = some (.bool (isW s), h) := pS_call (r := fun s => .bool (isW s)) (by kernel_rfl) h s hs
theorem e8_37 (h : H) (s : List Nat) (hs : lenOk s = true) : evL env8 112 [.str s] h = some (.bool (okT s), h) := pS_call (r := fun s => .bool (okT s)) (by kernel_rfl) h s hs
theorem e8_23 (c : Int) (h : H) : evL env8 78 [.int .u8 c] h = some (.bool (pLetter c), h) := by
  rw [evL_prim env8 (f := 78) (p := primPure (pI pLetter)) (by kernel_rfl)]; rfl
theorem e8_25 (c : Int) (h : H) : evL env8 80 [.int .u8 c] h = some (.bool (pDigit c), h) := by
  rw [evL_prim env8 (f := 80) (p := primPure (pI pDigit)) (by kernel_rfl)]; rfl

/-! ### A name -/
noncomputable def b24_0 : Code := loopOf Tryz.f79 0
theorem body24 : Tryz.f79.body = some (.seq (codeAt Tryz.f79 [0]) (.seq (codeAt Tryz.f79 [1, 0]) (.seq (.block 0 (.loop b24_0)) (codeAt Tryz.f79 [1, 1, 1])))) := rfl
theorem loop24 {s : List Nat} (hl : s.length < 4611686018427387904) : ∀ (l : List Nat) (i : Nat) {tm : Tm} {h : H} {x : Option (Ex × Tm × H)}, cdL env8 79 52 (.loop b24_0) tm h = x → l = s.drop i → i ≤ s.length →
    tm.get 0 = some (.str s) → tm.get 4 = some (.int .i64 ↑i) → ∃ tm', x = some (.exit 0, tm', h) ∧ tm'.get 0 = some (.str s) ∧ tm'.get 2 = tm.get 2 ∧ tm'.get 4 = some (.int .i64 ↑(i + cnt pMore l))
  | [], i, tm, h, x, hx, hd, hi, h0, h4 => by
    have hlen := dnil hd hi
    obtain ⟨R, hR, hx⟩ := loop_step hx
    simp [b24_0, loopOf, Tryz.f79, loops, EVT, endL, evSeq, evOne, evAct, evOp, opKind, evPure, evRead, evNew, evWrite, evSlice, natOf, optVal, readAt, AV.cells, wantedA, putTm, val, allVals, evBin, evInt, evStr, evAppend, evMin, nilCmp, denseFrom, sizesAre, onesIn, evPlan, recheck, H.new, H.put, fillF, fillAt, allOne, AV.one, setArgs, evRes, resOf, ofVal, ofVal0, isShift, ikBeq, TYC, lp, e8ty, e8pl, h0, h4, hlen, ltI_f] at hx
    exact ⟨_, by rw [← hx], by simp [T.get_set_ite, h0], by simp [T.get_set_ite], by simp [T.get_set_ite, cnt, h4]⟩
  | c :: l, i, tm, h, x, hx, hd, hi, h0, h4 => by
    obtain ⟨hlt, hc, hd'⟩ := dcons hd
    obtain ⟨R, hR, hx⟩ := loop_step hx
    have hlt' := ltI_t hlt
    have hw := wr_succ (i := i) (by omega)
    have hm : pMore ↑c = (pLetter ↑c || (pDigit ↑c || (intBeq ↑c 95 || intBeq ↑c 39))) := rfl
    have key : x = R tm h → True := fun _ => trivial
    cases h1 : pLetter ↑c <;> cases h2 : pDigit ↑c <;> cases h3 : intBeq ↑c 95 <;> cases h5 : intBeq ↑c 39 <;>
      simp [b24_0, loopOf, Tryz.f79, loops, EVT, endL, evSeq, evOne, evAct, evOp, opKind, evPure, evRead, evNew, evWrite, evSlice, natOf, optVal, readAt, AV.cells, wantedA, putTm, val, allVals, evBin, evInt, evStr, evAppend, evMin, nilCmp, denseFrom, sizesAre, onesIn, evPlan, recheck, H.new, H.put, fillF, fillAt, allOne, AV.one, setArgs, evRes, resOf, ofVal, ofVal0, isShift, ikBeq, TYC, lp, e8ty, e8pl, e8_23, e8_25, h0, h4, hlt', hc, h1, h2, h3, h5, hw] at hx
    case false.false.false.false =>
      have e : cnt pMore (c :: l) = 0 := by simp [cnt, hm, h1, h2, h3, h5]
      rw [e]
      exact ⟨_, by rw [← hx], by simp [T.get_set_ite, h0], by simp [T.get_set_ite], by simp [T.get_set_ite, h4]⟩
    all_goals
      rw [hR] at hx
      have e : cnt pMore (c :: l) = cnt pMore l + 1 := by simp [cnt, hm, h1, h2, h3, h5]
      obtain ⟨tm', g0, g1, g2, g3⟩ := loop24 hl l (i + 1) hx hd' hlt (by simp [T.get_set_ite, h0]) (by simp [T.get_set_ite])
      exact ⟨tm', g0, g1, by rw [g2]; simp [T.get_set_ite], by rw [g3, e]; simp [Nat.add_assoc, Nat.add_comm 1]⟩
def rname (s : List Nat) : AV :=
  let n := 1 + cnt pMore (s.drop 1)
  bif isW (s.take n) then .tup [tokA 4 (s.take n) 0 0, .int .i64 ↑n] else bif ltI 12 ↑n then .tup [tokA 0 [] 0 0, .int .i64 0] else .tup [tokA 1 (s.take n) 0 0, .int .i64 ↑n]
theorem rname_run (s : List Nat) (hl : s.length < 140737488355328) (hs : 0 < s.length) : ∃ h1, evL env8 79 [.str s] ⟨.e, 0⟩ = some (rname s, h1) := by
  rw [evL_fn env8 (by kernel_rfl) (by kernel_rfl) body24 _ _ rfl]
  simp only [codeAt, sub, Tryz.f79]
  simp [EVT, endL, evSeq, evOne, evAct, evOp, opKind, evPure, evRead, evNew, evWrite, evSlice, natOf, optVal, readAt, AV.cells, wantedA, putTm, val, allVals, evBin, evInt, evStr, evAppend, evMin, nilCmp, denseFrom, sizesAre, onesIn, evPlan, recheck, H.new, H.put, fillF, fillAt, allOne, AV.one, setArgs, evRes, resOf, ofVal, ofVal0, isShift, ikBeq, TYC, e8ty, e8pl]
  generalize hx : cdL env8 79 52 (.loop b24_0) _ _ = x
  obtain ⟨tm', rfl, g0, g2, g4⟩ := loop24 (s := s) (by omega) (s.drop 1) 1 hx rfl hs (by simp [T.get_set_ite]) (by simp [T.get_set_ite])
  simp [T.get_set_ite] at g2
  have hn := cnt_le pMore (s.drop 1)
  rw [List.length_drop] at hn
  unfold rname
  simp only
  generalize hm : 1 + cnt pMore (s.drop 1) = m at *
  have hm1 : m ≤ s.length := by omega
  have ht : lenOk (s.take m) = true := lenOk_iff.2 (by simp; omega)
  have w1 := fun h => e8_36 h (s.take m) ht
  cases h1 : isW (s.take m) with
  | true => simp [EVT, endL, evSeq, evOne, evAct, evOp, opKind, evPure, evRead, evNew, evWrite, evSlice, natOf, optVal, readAt, AV.cells, wantedA, putTm, val, allVals, evBin, evInt, evStr, evAppend, evMin, nilCmp, denseFrom, sizesAre, onesIn, evPlan, recheck, H.new, H.put, fillF, fillAt, allOne, AV.one, setArgs, evRes, resOf, ofVal, ofVal0, isShift, ikBeq, TYC, e8ty, e8pl, g0, g2, g4, hm1, w1, h1, tokA]
  | false =>
    cases h2 : ltI 12 ↑m with
    | true => simp [EVT, endL, evSeq, evOne, evAct, evOp, opKind, evPure, evRead, evNew, evWrite, evSlice, natOf, optVal, readAt, AV.cells, wantedA, putTm, val, allVals, evBin, evInt, evStr, evAppend, evMin, nilCmp, denseFrom, sizesAre, onesIn, evPlan, recheck, H.new, H.put, fillF, fillAt, allOne, AV.one, setArgs, evRes, resOf, ofVal, ofVal0, isShift, ikBeq, TYC, e8ty, e8pl, g0, g2, g4, hm1, w1, h1, h2, tokA]
    | false => simp [EVT, endL, evSeq, evOne, evAct, evOp, opKind, evPure, evRead, evNew, evWrite, evSlice, natOf, optVal, readAt, AV.cells, wantedA, putTm, val, allVals, evBin, evInt, evStr, evAppend, evMin, nilCmp, denseFrom, sizesAre, onesIn, evPlan, recheck, H.new, H.put, fillF, fillAt, allOne, AV.one, setArgs, evRes, resOf, ofVal, ofVal0, isShift, ikBeq, TYC, e8ty, e8pl, g0, g2, g4, hm1, w1, h1, h2, tokA]

end Go.Proofs.YtncccgglillmoaaGreatDoor.Lx
