/- Members of rows of strings. -/
import Derived.Test.YtogjplcnmibnlaaGreatDoorEvV
import Derived.Test.YtogjplcnmibnlaaGreatDoorCFacts
set_option autoImplicit false
set_option maxRecDepth 100000
set_option linter.unusedSimpArgs false
set_option linter.unusedVariables false
set_option linter.unusedSectionVars false
namespace Go.Proofs.YtogjplcnmibnlaaGreatDoor.Tr
open Go.Proofs.YtogjplcnmibnlaaGreatDoor.Env Go.Ev Go.Ev.Nd

def idxS (v : List Nat) : List Str → Nat → Int
  | [], _ => -1
  | t :: l, i => bif natsBeq v t.s then ↑i else idxS v l (i + 1)
theorem idxS_neg {v : List Nat} : ∀ {l : List Str} (i : Nat), ltI (idxS v l i) 0 = !hasS l v
  | [], i => rfl
  | t :: l, i => by
    simp only [idxS, hasS, List.any_cons]
    cases hb : natsBeq v t.s with
    | true => simp only [cond_true, Bool.true_or, Bool.not_true, ltI_eq]; simp
    | false => simp only [cond_false, Bool.false_or]; exact idxS_neg (l := l) (i + 1)
noncomputable def b37_0 : Code := loopOf Tryz.f34 0
theorem body37 : Tryz.f34.body = some (.seq (codeAt Tryz.f34 [0]) (.seq (.seq (codeAt Tryz.f34 [1, 0, 0]) (.block 0 (.loop b37_0))) (codeAt Tryz.f34 [1, 1]))) := rfl
theorem loop37 {E : Env} (hty : E.ty = env.ty) (hpl : E.plan = env.plan) {o : Own} {L : List Str} {v : List Nat} (hl : L.length ≤ 9223372036854775807) : ∀ (l : List Str) (i : Nat) {tm : Tm} {h : H} {x : Option (Ex × Tm × H)}, cdL E 34 19 (.loop b37_0) tm h = x → l = L.drop i → i ≤ L.length →
    tm.get 0 = some (.sl o (strs L)) → tm.get 1 = some (.str v) → tm.get 7 = some (.int .i64 ↑L.length) → tm.get 8 = some (.int .i64 ↑i) → ∃ tm', x = some (bif hasS l v then .ret else .exit 0, tm', h) ∧ (hasS l v = true → tm'.get 4 = some (.int .i64 (idxS v l i)))
  | [], i, tm, h, x, hx, hd, hi, h0, h1, h7, h8 => by
    have hlen := dnil hd hi
    obtain ⟨R, hR, hx⟩ := loop_step hx
    simp [b37_0, loopOf, Tryz.f34, loops, EVT, endL, evSeq, evOne, evAct, evOp, opKind, evPure, evRead, evNew, evWrite, evSlice, natOf, optVal, readAt, AV.cells, wantedA, putTm, val, allVals, evBin, evInt, evStr, evAppend, evMin, nilCmp, denseFrom, sizesAre, onesIn, evPlan, recheck, H.new, H.put, fillF, fillAt, allOne, AV.one, setArgs, evRes, resOf, ofVal, ofVal0, isShift, ikBeq, TYC, lp, hty, hpl, h0, h1, h7, h8, hlen, ltI_f] at hx
    exact ⟨_, by rw [← hx]; rfl, by simp [hasS]⟩
  | c :: l, i, tm, h, x, hx, hd, hi, h0, h1, h7, h8 => by
    obtain ⟨hlt, hc, hd'⟩ := dcons hd
    have hat := strs_get hc
    obtain ⟨R, hR, hx⟩ := loop_step hx
    have hlt' := ltI_t hlt
    have hw := wr_succ (i := i) (by omega)
    cases hb : natsBeq v c.s with
    | true =>
      simp [b37_0, loopOf, Tryz.f34, loops, EVT, endL, evSeq, evOne, evAct, evOp, opKind, evPure, evRead, evNew, evWrite, evSlice, natOf, optVal, readAt, AV.cells, wantedA, putTm, val, allVals, evBin, evInt, evStr, evAppend, evMin, nilCmp, denseFrom, sizesAre, onesIn, evPlan, recheck, H.new, H.put, fillF, fillAt, allOne, AV.one, setArgs, evRes, resOf, ofVal, ofVal0, isShift, ikBeq, TYC, lp, hty, hpl, h0, h1, h7, h8, hlt', hat, hb, hw] at hx
      exact ⟨_, by rw [← hx]; simp [hasS, hb]; rfl, by simp [T.get_set_ite, idxS, hb]⟩
    | false =>
      simp [b37_0, loopOf, Tryz.f34, loops, EVT, endL, evSeq, evOne, evAct, evOp, opKind, evPure, evRead, evNew, evWrite, evSlice, natOf, optVal, readAt, AV.cells, wantedA, putTm, val, allVals, evBin, evInt, evStr, evAppend, evMin, nilCmp, denseFrom, sizesAre, onesIn, evPlan, recheck, H.new, H.put, fillF, fillAt, allOne, AV.one, setArgs, evRes, resOf, ofVal, ofVal0, isShift, ikBeq, TYC, lp, hty, hpl, h0, h1, h7, h8, hlt', hat, hb, hw] at hx
      rw [hR] at hx
      have e : hasS (c :: l) v = hasS l v := by simp [hasS, hb]
      have e2 : idxS v (c :: l) i = idxS v l (i + 1) := by simp [idxS, hb]
      rw [e, e2]
      exact loop37 hty hpl (o := o) (v := v) hl l (i + 1) hx hd' hlt (by simp [T.get_set_ite, h0]) (by simp [T.get_set_ite, h1]) (by simp [T.get_set_ite, h7]) (by simp [T.get_set_ite])
theorem index_run {E : Env} (hty : E.ty = env.ty) (hpl : E.plan = env.plan) (hp : E.prim 34 = none) (hfn : E.fns 34 = some Tryz.f34) (o : Own) (L : List Str) (v : List Nat) (hl : L.length ≤ 9223372036854775807) (h : H) : evL E 34 [.sl o (strs L), .str v] h = some (.int .i64 (idxS v L 0), h) := by
  have hil := strs_len L
  rw [evL_fn E hp hfn body37 _ _ rfl]
  simp only [codeAt, sub, Tryz.f34]
  simp [EVT, endL, evSeq, evOne, evAct, evOp, opKind, evPure, evRead, evNew, evWrite, evSlice, natOf, optVal, readAt, AV.cells, wantedA, putTm, val, allVals, evBin, evInt, evStr, evAppend, evMin, nilCmp, denseFrom, sizesAre, onesIn, evPlan, recheck, H.new, H.put, fillF, fillAt, allOne, AV.one, setArgs, evRes, resOf, ofVal, ofVal0, isShift, ikBeq, TYC, hty, hpl, hil]
  generalize hx : cdL E 34 19 (.loop b37_0) _ _ = x
  obtain ⟨tm', rfl, g⟩ := loop37 hty hpl (o := o) (v := v) hl L 0 hx rfl (Nat.zero_le _) (by simp [T.get_set_ite]) (by simp [T.get_set_ite]) (by simp [T.get_set_ite]) (by simp [T.get_set_ite])
  cases hb : hasS L v with
  | true => simp [EVT, endL, evSeq, evOne, evAct, evOp, opKind, evPure, evRead, evNew, evWrite, evSlice, natOf, optVal, readAt, AV.cells, wantedA, putTm, val, allVals, evBin, evInt, evStr, evAppend, evMin, nilCmp, denseFrom, sizesAre, onesIn, evPlan, recheck, H.new, H.put, fillF, fillAt, allOne, AV.one, setArgs, evRes, resOf, ofVal, ofVal0, isShift, ikBeq, TYC, hty, hpl, g hb]
  | false =>
    have : ∀ (l : List Str) (i : Nat), hasS l v = false → idxS v l i = -1 := by
      intro l
      induction l with
      | nil => intro i _; rfl
      | cons t l ih =>
        intro i hh
        simp only [hasS, List.any_cons, Bool.or_eq_false_iff] at hh
        simp only [idxS, hh.1, cond_false]
        exact ih (i + 1) hh.2
    rw [this L 0 hb]
    simp [EVT, endL, evSeq, evOne, evAct, evOp, opKind, evPure, evRead, evNew, evWrite, evSlice, natOf, optVal, readAt, AV.cells, wantedA, putTm, val, allVals, evBin, evInt, evStr, evAppend, evMin, nilCmp, denseFrom, sizesAre, onesIn, evPlan, recheck, H.new, H.put, fillF, fillAt, allOne, AV.one, setArgs, evRes, resOf, ofVal, ofVal0, isShift, ikBeq, TYC, hty, hpl]
noncomputable abbrev pHasS := primVal (ofRel (Rel2 (fun (L : List Str) (_ : Str) => L.length ≤ 9223372036854775807) (fun L v => hasS L v.s)))
theorem cHas {E : Env} {f : Nat} (hp : E.prim f = some pHasS) (o : Own) (L : List Str) (v : List Nat) (hl : L.length ≤ 9223372036854775807) (h : H) : evL E f [.sl o (strs L), .str v] h = some (.bool (hasS L v), h) :=
  prim2_call (α := List Str) (β := Str) (a := L) (b := ⟨v⟩) hp (strs_bare 0 o L) (by simp [AV.wk, Enc.enc]) hl h
theorem p27_ok : PrimOk Tryz.prog 18 pHasS := prim2_ok env_ok (fn := Tryz.f18) (by kernel_rfl) rfl (by kernel_rfl) fun L v hl => by
  have k37 := fun h => index_run (E := env) rfl rfl (by kernel_rfl) (by kernel_rfl) .no L v.s hl h
  have hb := idxS_neg (v := v.s) (l := L) 0
  rw [strs_enc, show (Enc.enc v : AV) = .str v.s from rfl, show (Enc.enc (hasS L v.s) : AV) = .bool (hasS L v.s) from rfl]
  unfold bodyL
  simp only [Tryz.f18]
  simp [EVT, endL, evSeq, evOne, evAct, evOp, opKind, evPure, evRead, evNew, evWrite, evSlice, natOf, optVal, readAt, AV.cells, wantedA, putTm, val, allVals, evBin, evInt, evStr, evAppend, evMin, nilCmp, denseFrom, sizesAre, onesIn, evPlan, recheck, H.new, H.put, fillF, fillAt, allOne, AV.one, setArgs, evRes, resOf, ofVal, ofVal0, isShift, ikBeq, TYC, k37, hb, AV.wk]
/-! ### the reference's -/
noncomputable def b40_0 : Code := loopOf Tryz.f25 0
theorem body40 : Tryz.f25.body = some (.seq (codeAt Tryz.f25 [0]) (.seq (.seq (codeAt Tryz.f25 [1, 0, 0]) (.block 0 (.loop b40_0))) (codeAt Tryz.f25 [1, 1]))) := rfl
theorem loop40 {o : Own} {L : List Str} {v : List Nat} (hl : L.length ≤ 9223372036854775807) : ∀ (l : List Str) (i : Nat) {tm : Tm} {h : H} {x : Option (Ex × Tm × H)}, cdL env 25 18 (.loop b40_0) tm h = x → l = L.drop i → i ≤ L.length →
    tm.get 0 = some (.sl o (strs L)) → tm.get 1 = some (.str v) → tm.get 5 = some (.int .i64 ↑i) → ∃ tm', x = some (bif hasS l v then .ret else .exit 0, tm', h) ∧ (hasS l v = true → tm'.get 4 = some (.bool true))
  | [], i, tm, h, x, hx, hd, hi, h0, h1, h5 => by
    have hlen := dnil hd hi
    have hil := strs_len L
    rw [hlen] at hil
    obtain ⟨R, hR, hx⟩ := loop_step hx
    simp [b40_0, loopOf, Tryz.f25, loops, EVT, endL, evSeq, evOne, evAct, evOp, opKind, evPure, evRead, evNew, evWrite, evSlice, natOf, optVal, readAt, AV.cells, wantedA, putTm, val, allVals, evBin, evInt, evStr, evAppend, evMin, nilCmp, denseFrom, sizesAre, onesIn, evPlan, recheck, H.new, H.put, fillF, fillAt, allOne, AV.one, setArgs, evRes, resOf, ofVal, ofVal0, isShift, ikBeq, TYC, lp, h0, h1, h5, hil, ltI_f] at hx
    exact ⟨_, by rw [← hx]; rfl, by simp [hasS]⟩
  | c :: l, i, tm, h, x, hx, hd, hi, h0, h1, h5 => by
    obtain ⟨hlt, hc, hd'⟩ := dcons hd
    have hat := strs_get hc
    have hil := strs_len L
    obtain ⟨R, hR, hx⟩ := loop_step hx
    have hlt' := ltI_t hlt
    have hw := wr_succ (i := i) (by omega)
    have hcm := natsBeq_comm c.s v
    cases hb : natsBeq v c.s with
    | true =>
      rw [hb] at hcm
      simp [b40_0, loopOf, Tryz.f25, loops, EVT, endL, evSeq, evOne, evAct, evOp, opKind, evPure, evRead, evNew, evWrite, evSlice, natOf, optVal, readAt, AV.cells, wantedA, putTm, val, allVals, evBin, evInt, evStr, evAppend, evMin, nilCmp, denseFrom, sizesAre, onesIn, evPlan, recheck, H.new, H.put, fillF, fillAt, allOne, AV.one, setArgs, evRes, resOf, ofVal, ofVal0, isShift, ikBeq, TYC, lp, h0, h1, h5, hlt', hil, hat, hcm, hw] at hx
      exact ⟨_, by rw [← hx]; simp [hasS, hb]; rfl, by simp [T.get_set_ite]⟩
    | false =>
      rw [hb] at hcm
      simp [b40_0, loopOf, Tryz.f25, loops, EVT, endL, evSeq, evOne, evAct, evOp, opKind, evPure, evRead, evNew, evWrite, evSlice, natOf, optVal, readAt, AV.cells, wantedA, putTm, val, allVals, evBin, evInt, evStr, evAppend, evMin, nilCmp, denseFrom, sizesAre, onesIn, evPlan, recheck, H.new, H.put, fillF, fillAt, allOne, AV.one, setArgs, evRes, resOf, ofVal, ofVal0, isShift, ikBeq, TYC, lp, h0, h1, h5, hlt', hil, hat, hcm, hw] at hx
      rw [hR] at hx
      have e : hasS (c :: l) v = hasS l v := by simp [hasS, hb]
      rw [e]
      exact loop40 (o := o) (v := v) hl l (i + 1) hx hd' hlt (by simp [T.get_set_ite, h0]) (by simp [T.get_set_ite, h1]) (by simp [T.get_set_ite])
theorem p40_ok : PrimOk Tryz.prog 25 pHasS := prim2_ok env_ok (fn := Tryz.f25) (by kernel_rfl) body40 (by kernel_rfl) fun L v hl => by
  rw [strs_enc, show (Enc.enc v : AV) = .str v.s from rfl, show (Enc.enc (hasS L v.s) : AV) = .bool (hasS L v.s) from rfl]
  unfold bodyL
  simp only [codeAt, sub, Tryz.f25]
  simp [EVT, endL, evSeq, evOne, evAct, evOp, opKind, evPure, evRead, evNew, evWrite, evSlice, natOf, optVal, readAt, AV.cells, wantedA, putTm, val, allVals, evBin, evInt, evStr, evAppend, evMin, nilCmp, denseFrom, sizesAre, onesIn, evPlan, recheck, H.new, H.put, fillF, fillAt, allOne, AV.one, setArgs, evRes, resOf, ofVal, ofVal0, isShift, ikBeq, TYC]
  generalize hx : cdL env 25 18 (.loop b40_0) _ _ = x
  obtain ⟨tm', rfl, g⟩ := loop40 (o := .no) (v := v.s) hl L 0 hx rfl (Nat.zero_le _) (by simp [T.get_set_ite]) (by simp [T.get_set_ite]) (by simp [T.get_set_ite])
  cases hb : hasS L v.s with
  | true => simp [EVT, endL, evSeq, evOne, evAct, evOp, opKind, evPure, evRead, evNew, evWrite, evSlice, natOf, optVal, readAt, AV.cells, wantedA, putTm, val, allVals, evBin, evInt, evStr, evAppend, evMin, nilCmp, denseFrom, sizesAre, onesIn, evPlan, recheck, H.new, H.put, fillF, fillAt, allOne, AV.one, setArgs, evRes, resOf, ofVal, ofVal0, isShift, ikBeq, TYC, g hb, AV.wk]
  | false => simp [EVT, endL, evSeq, evOne, evAct, evOp, opKind, evPure, evRead, evNew, evWrite, evSlice, natOf, optVal, readAt, AV.cells, wantedA, putTm, val, allVals, evBin, evInt, evStr, evAppend, evMin, nilCmp, denseFrom, sizesAre, onesIn, evPlan, recheck, H.new, H.put, fillF, fillAt, allOne, AV.one, setArgs, evRes, resOf, ofVal, ofVal0, isShift, ikBeq, TYC, AV.wk]
/-! ### Rows -/
def rowsL : List Str → List Str → Bool
  | [], _ => true
  | _ :: _, [] => false
  | a :: l, b :: m => natsBeq a.s b.s && rowsL l m
def rowsF (a b : List Str) : Bool := intBeq ↑a.length ↑b.length && rowsL a b
theorem rowsL_self : ∀ l : List Str, rowsL l l = true
  | [] => rfl
  | a :: l => by simp [rowsL, natsBeq_iff.2 (rfl : a.s = a.s), rowsL_self l]
theorem rowsF_self (a : List Str) : rowsF a a = true := by simp [rowsF, rowsL_self, intBeq_iff.2 (rfl : (↑a.length : Int) = _)]
end Go.Proofs.YtogjplcnmibnlaaGreatDoor.Tr
/- The names that a node binds in a kid, both. -/
namespace Go.Proofs.YtogjplcnmibnlaaGreatDoor.Tr
open Go.Proofs.YtogjplcnmibnlaaGreatDoor.Env Go.Ev Go.Ev.Nd

def funS : List Nat := [102, 117, 110]
def letS : List Nat := [108, 101, 116]
def tryS : List Nat := [116, 114, 121]
def recS : List Nat := [114, 101, 99]
def matchS : List Nat := [109, 97, 116, 99, 104]
def varS : List Nat := [118, 97, 114]
def bindT (o p q : List Nat) (i : Int) : List Str :=
  bif natsBeq o funS || ((natsBeq o letS || natsBeq o tryS) && intBeq i 1) then [⟨p⟩] else
  bif (natsBeq o recS && intBeq i 0) || (natsBeq o matchS && intBeq i 2) then [⟨p⟩, ⟨q⟩] else bif natsBeq o recS then [⟨p⟩] else []
def bindR (o p q : List Nat) (i : Int) : List Str :=
  bif natsBeq o funS || ((natsBeq o letS && intBeq i 1) || ((natsBeq o tryS && intBeq i 1) || (natsBeq o recS && intBeq i 1))) then [⟨p⟩] else
  bif (natsBeq o recS && intBeq i 0) || (natsBeq o matchS && intBeq i 2) then [⟨p⟩, ⟨q⟩] else []
def bindTN (t : Nd) (i : Int) : List Str := bindT t.op t.name t.arg i
def bindRN (t : Nd) (i : Int) : List Str := bindR t.op t.name t.arg i
noncomputable abbrev pBindT := primVal (ofRel (Rel2 (fun (_ : Nd) (_ : Int) => True) bindTN))
noncomputable abbrev pBindR := primVal (ofRel (Rel2 (fun (_ : Nd) (_ : Int) => True) bindRN))
theorem p26_ok : PrimOk Tryz.prog 39 pBindT := prim2_ok env_ok (fn := Tryz.f39) (by kernel_rfl) (c := codeAt Tryz.f39 []) rfl (by kernel_rfl) fun t i _ => by
  obtain ⟨o, p, q, n, a, ks⟩ := t
  rw [show (Enc.enc (Nd.mk o p q n a ks) : AV) = (Nd.mk o p q n a ks).av from rfl, show (Enc.enc i : AV) = .int .i64 i from rfl, strs_enc]
  unfold bodyL bindTN bindT
  simp only [codeAt, sub, Tryz.f39, Nd.op, Nd.name, Nd.arg, Nd.av]
  by_cases e1 : o = funS
  · subst e1; simp [EVT, endL, evSeq, evOne, evAct, evOp, opKind, evPure, evRead, evNew, evWrite, evSlice, natOf, optVal, readAt, AV.cells, wantedA, putTm, val, allVals, evBin, evInt, evStr, evAppend, evMin, nilCmp, denseFrom, sizesAre, onesIn, evPlan, recheck, H.new, H.put, fillF, fillAt, allOne, AV.one, setArgs, evRes, resOf, ofVal, ofVal0, isShift, ikBeq, TYC, natsBeq, bytesOf, funS, letS, tryS, recS, matchS, strs, wk_agg, wk_tup, wk_sl, wks_cons, wks_nil, wk_int, wk_str, wk_bool, own_no]
  by_cases e2 : o = letS
  · subst e2; cases h1 : intBeq i 1 <;> simp [EVT, endL, evSeq, evOne, evAct, evOp, opKind, evPure, evRead, evNew, evWrite, evSlice, natOf, optVal, readAt, AV.cells, wantedA, putTm, val, allVals, evBin, evInt, evStr, evAppend, evMin, nilCmp, denseFrom, sizesAre, onesIn, evPlan, recheck, H.new, H.put, fillF, fillAt, allOne, AV.one, setArgs, evRes, resOf, ofVal, ofVal0, isShift, ikBeq, TYC, natsBeq, bytesOf, funS, letS, tryS, recS, matchS, h1, strs, wk_agg, wk_tup, wk_sl, wks_cons, wks_nil, wk_int, wk_str, wk_bool, own_no]
  by_cases e3 : o = tryS
  · subst e3; cases h1 : intBeq i 1 <;> simp [EVT, endL, evSeq, evOne, evAct, evOp, opKind, evPure, evRead, evNew, evWrite, evSlice, natOf, optVal, readAt, AV.cells, wantedA, putTm, val, allVals, evBin, evInt, evStr, evAppend, evMin, nilCmp, denseFrom, sizesAre, onesIn, evPlan, recheck, H.new, H.put, fillF, fillAt, allOne, AV.one, setArgs, evRes, resOf, ofVal, ofVal0, isShift, ikBeq, TYC, natsBeq, bytesOf, funS, letS, tryS, recS, matchS, h1, strs, wk_agg, wk_tup, wk_sl, wks_cons, wks_nil, wk_int, wk_str, wk_bool, own_no]
  by_cases e4 : o = recS
  · subst e4; cases h1 : intBeq i 0 <;> simp [EVT, endL, evSeq, evOne, evAct, evOp, opKind, evPure, evRead, evNew, evWrite, evSlice, natOf, optVal, readAt, AV.cells, wantedA, putTm, val, allVals, evBin, evInt, evStr, evAppend, evMin, nilCmp, denseFrom, sizesAre, onesIn, evPlan, recheck, H.new, H.put, fillF, fillAt, allOne, AV.one, setArgs, evRes, resOf, ofVal, ofVal0, isShift, ikBeq, TYC, natsBeq, bytesOf, funS, letS, tryS, recS, matchS, h1, strs, wk_agg, wk_tup, wk_sl, wks_cons, wks_nil, wk_int, wk_str, wk_bool, own_no]
  by_cases e5 : o = matchS
  · subst e5; cases h1 : intBeq i 2 <;> simp [EVT, endL, evSeq, evOne, evAct, evOp, opKind, evPure, evRead, evNew, evWrite, evSlice, natOf, optVal, readAt, AV.cells, wantedA, putTm, val, allVals, evBin, evInt, evStr, evAppend, evMin, nilCmp, denseFrom, sizesAre, onesIn, evPlan, recheck, H.new, H.put, fillF, fillAt, allOne, AV.one, setArgs, evRes, resOf, ofVal, ofVal0, isShift, ikBeq, TYC, natsBeq, bytesOf, funS, letS, tryS, recS, matchS, h1, strs, wk_agg, wk_tup, wk_sl, wks_cons, wks_nil, wk_int, wk_str, wk_bool, own_no]
  have n1 : natsBeq o [102, 117, 110] = false := by cases hb : natsBeq o [102, 117, 110] with | false => rfl | true => exact absurd (natsBeq_iff.1 hb) e1
  have n2 : natsBeq o [108, 101, 116] = false := by cases hb : natsBeq o [108, 101, 116] with | false => rfl | true => exact absurd (natsBeq_iff.1 hb) e2
  have n3 : natsBeq o [116, 114, 121] = false := by cases hb : natsBeq o [116, 114, 121] with | false => rfl | true => exact absurd (natsBeq_iff.1 hb) e3
  have n4 : natsBeq o [114, 101, 99] = false := by cases hb : natsBeq o [114, 101, 99] with | false => rfl | true => exact absurd (natsBeq_iff.1 hb) e4
  have n5 : natsBeq o [109, 97, 116, 99, 104] = false := by cases hb : natsBeq o [109, 97, 116, 99, 104] with | false => rfl | true => exact absurd (natsBeq_iff.1 hb) e5
  simp [EVT, endL, evSeq, evOne, evAct, evOp, opKind, evPure, evRead, evNew, evWrite, evSlice, natOf, optVal, readAt, AV.cells, wantedA, putTm, val, allVals, evBin, evInt, evStr, evAppend, evMin, nilCmp, denseFrom, sizesAre, onesIn, evPlan, recheck, H.new, H.put, fillF, fillAt, allOne, AV.one, setArgs, evRes, resOf, ofVal, ofVal0, isShift, ikBeq, TYC, bytesOf, funS, letS, tryS, recS, matchS, n1, n2, n3, n4, n5, strs, wk_agg, wk_tup, wk_sl, wks_cons, wks_nil, wk_int, wk_str, wk_bool, own_no]
theorem p41_ok : PrimOk Tryz.prog 62 pBindR := prim2_ok env_ok (fn := Tryz.f62) (by kernel_rfl) (c := codeAt Tryz.f62 []) rfl (by kernel_rfl) fun t i _ => by
  obtain ⟨o, p, q, n, a, ks⟩ := t
  rw [show (Enc.enc (Nd.mk o p q n a ks) : AV) = (Nd.mk o p q n a ks).av from rfl, show (Enc.enc i : AV) = .int .i64 i from rfl, strs_enc]
  unfold bodyL bindRN bindR
  simp only [codeAt, sub, Tryz.f62, Nd.op, Nd.name, Nd.arg, Nd.av]
  by_cases e1 : o = funS
  · subst e1; simp [EVT, endL, evSeq, evOne, evAct, evOp, opKind, evPure, evRead, evNew, evWrite, evSlice, natOf, optVal, readAt, AV.cells, wantedA, putTm, val, allVals, evBin, evInt, evStr, evAppend, evMin, nilCmp, denseFrom, sizesAre, onesIn, evPlan, recheck, H.new, H.put, fillF, fillAt, allOne, AV.one, setArgs, evRes, resOf, ofVal, ofVal0, isShift, ikBeq, TYC, natsBeq, bytesOf, funS, letS, tryS, recS, matchS, strs, wk_agg, wk_tup, wk_sl, wks_cons, wks_nil, wk_int, wk_str, wk_bool, own_no]
  by_cases e2 : o = letS
  · subst e2; cases h1 : intBeq i 1 <;> simp [EVT, endL, evSeq, evOne, evAct, evOp, opKind, evPure, evRead, evNew, evWrite, evSlice, natOf, optVal, readAt, AV.cells, wantedA, putTm, val, allVals, evBin, evInt, evStr, evAppend, evMin, nilCmp, denseFrom, sizesAre, onesIn, evPlan, recheck, H.new, H.put, fillF, fillAt, allOne, AV.one, setArgs, evRes, resOf, ofVal, ofVal0, isShift, ikBeq, TYC, natsBeq, bytesOf, funS, letS, tryS, recS, matchS, h1, strs, wk_agg, wk_tup, wk_sl, wks_cons, wks_nil, wk_int, wk_str, wk_bool, own_no]
  by_cases e3 : o = tryS
  · subst e3; cases h1 : intBeq i 1 <;> simp [EVT, endL, evSeq, evOne, evAct, evOp, opKind, evPure, evRead, evNew, evWrite, evSlice, natOf, optVal, readAt, AV.cells, wantedA, putTm, val, allVals, evBin, evInt, evStr, evAppend, evMin, nilCmp, denseFrom, sizesAre, onesIn, evPlan, recheck, H.new, H.put, fillF, fillAt, allOne, AV.one, setArgs, evRes, resOf, ofVal, ofVal0, isShift, ikBeq, TYC, natsBeq, bytesOf, funS, letS, tryS, recS, matchS, h1, strs, wk_agg, wk_tup, wk_sl, wks_cons, wks_nil, wk_int, wk_str, wk_bool, own_no]
  by_cases e4 : o = recS
  · subst e4; cases h1 : intBeq i 1 <;> cases h2 : intBeq i 0 <;> simp [EVT, endL, evSeq, evOne, evAct, evOp, opKind, evPure, evRead, evNew, evWrite, evSlice, natOf, optVal, readAt, AV.cells, wantedA, putTm, val, allVals, evBin, evInt, evStr, evAppend, evMin, nilCmp, denseFrom, sizesAre, onesIn, evPlan, recheck, H.new, H.put, fillF, fillAt, allOne, AV.one, setArgs, evRes, resOf, ofVal, ofVal0, isShift, ikBeq, TYC, natsBeq, bytesOf, funS, letS, tryS, recS, matchS, h1, h2, strs, wk_agg, wk_tup, wk_sl, wks_cons, wks_nil, wk_int, wk_str, wk_bool, own_no]
  by_cases e5 : o = matchS
  · subst e5; cases h1 : intBeq i 2 <;> simp [EVT, endL, evSeq, evOne, evAct, evOp, opKind, evPure, evRead, evNew, evWrite, evSlice, natOf, optVal, readAt, AV.cells, wantedA, putTm, val, allVals, evBin, evInt, evStr, evAppend, evMin, nilCmp, denseFrom, sizesAre, onesIn, evPlan, recheck, H.new, H.put, fillF, fillAt, allOne, AV.one, setArgs, evRes, resOf, ofVal, ofVal0, isShift, ikBeq, TYC, natsBeq, bytesOf, funS, letS, tryS, recS, matchS, h1, strs, wk_agg, wk_tup, wk_sl, wks_cons, wks_nil, wk_int, wk_str, wk_bool, own_no]
  have n1 : natsBeq o [102, 117, 110] = false := by cases hb : natsBeq o [102, 117, 110] with | false => rfl | true => exact absurd (natsBeq_iff.1 hb) e1
  have n2 : natsBeq o [108, 101, 116] = false := by cases hb : natsBeq o [108, 101, 116] with | false => rfl | true => exact absurd (natsBeq_iff.1 hb) e2
  have n3 : natsBeq o [116, 114, 121] = false := by cases hb : natsBeq o [116, 114, 121] with | false => rfl | true => exact absurd (natsBeq_iff.1 hb) e3
  have n4 : natsBeq o [114, 101, 99] = false := by cases hb : natsBeq o [114, 101, 99] with | false => rfl | true => exact absurd (natsBeq_iff.1 hb) e4
  have n5 : natsBeq o [109, 97, 116, 99, 104] = false := by cases hb : natsBeq o [109, 97, 116, 99, 104] with | false => rfl | true => exact absurd (natsBeq_iff.1 hb) e5
  simp [EVT, endL, evSeq, evOne, evAct, evOp, opKind, evPure, evRead, evNew, evWrite, evSlice, natOf, optVal, readAt, AV.cells, wantedA, putTm, val, allVals, evBin, evInt, evStr, evAppend, evMin, nilCmp, denseFrom, sizesAre, onesIn, evPlan, recheck, H.new, H.put, fillF, fillAt, allOne, AV.one, setArgs, evRes, resOf, ofVal, ofVal0, isShift, ikBeq, TYC, bytesOf, funS, letS, tryS, recS, matchS, n1, n2, n3, n4, n5, strs, wk_agg, wk_tup, wk_sl, wks_cons, wks_nil, wk_int, wk_str, wk_bool, own_no]
theorem cBindT {E : Env} (hp : E.prim 39 = some pBindT) (t : Nd) (i : Int) (h : H) : evL E 39 [t.av, .int .i64 i] h = some (.sl .no (strs (bindTN t i)), h) :=
  prim2_call (a := t) (b := i) (F := bindTN) (q := fun _ _ => True) hp (Enc.bare 0 t) (Enc.bare 0 i) trivial h
theorem cBindR {E : Env} (hp : E.prim 62 = some pBindR) (t : Nd) (i : Int) (h : H) : evL E 62 [t.av, .int .i64 i] h = some (.sl .no (strs (bindRN t i)), h) :=
  prim2_call (a := t) (b := i) (F := bindRN) (q := fun _ _ => True) hp (Enc.bare 0 t) (Enc.bare 0 i) trivial h
theorem bindT_len (o p q : List Nat) (i : Int) : (bindT o p q i).length ≤ 2 := by
  unfold bindT
  cases (natsBeq o funS || ((natsBeq o letS || natsBeq o tryS) && intBeq i 1)) <;> cases ((natsBeq o recS && intBeq i 0) || (natsBeq o matchS && intBeq i 2)) <;> cases natsBeq o recS <;> simp
theorem bindR_len (o p q : List Nat) (i : Int) : (bindR o p q i).length ≤ 2 := by
  unfold bindR
  cases (natsBeq o funS || ((natsBeq o letS && intBeq i 1) || ((natsBeq o tryS && intBeq i 1) || (natsBeq o recS && intBeq i 1)))) <;> cases ((natsBeq o recS && intBeq i 0) || (natsBeq o matchS && intBeq i 2)) <;> simp
end Go.Proofs.YtogjplcnmibnlaaGreatDoor.Tr
