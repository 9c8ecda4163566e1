/- The reference's Of makes the program that gen says. -/
import Derived.Test.YtogjplcnmibnlaaGreatDoorCZl
set_option autoImplicit false
set_option maxRecDepth 100000
set_option maxHeartbeats 8000000
set_option linter.unusedSimpArgs false
set_option linter.unusedVariables false
namespace Go.Proofs.YtogjplcnmibnlaaGreatDoor.Env
open Go.Ev Go.Ev.Nd

noncomputable def b9_0 : Code := loopOf Tryz.f9 0
noncomputable def b9_1 : Code := loopOf Tryz.f9 1
theorem body9 : Tryz.f9.body = some (.seq (codeAt Tryz.f9 [0]) (.seq (codeAt Tryz.f9 [1, 0]) (.seq (codeAt Tryz.f9 [1, 1, 0]) (.seq (.seq (codeAt Tryz.f9 [1, 1, 1, 0, 0]) (.block 0 (.loop b9_0))) (.seq (codeAt Tryz.f9 [1, 1, 1, 1, 0]) (.seq (codeAt Tryz.f9 [1, 1, 1, 1, 1, 0]) (.seq (codeAt Tryz.f9 [1, 1, 1, 1, 1, 1, 0]) (.seq (.seq (codeAt Tryz.f9 [1, 1, 1, 1, 1, 1, 1, 0, 0]) (.block 2 (.loop b9_1))) (codeAt Tryz.f9 [1, 1, 1, 1, 1, 1, 1, 1]))))))))) := rfl
theorem loop9_0 {E : Env} (e : EOf E) {o oe : Go.Ev.Own} {L en : List Str} {rc : Nat} {bx : AV} (hen : en.length ≤ 1000000) (hl : L.length ≤ 1000000) {h : H} (hrc : h.t.get rc = some (.cells zeroC)) : ∀ (l : List Str) (i : Nat) {tm : Tm} {x : Option (Ex × Tm × H)}, cdL E 9 82 (.loop b9_0) tm h = x → l = L.drop i → i ≤ L.length →
    tm.get 1 = some (.sl oe (strs en)) → tm.get 2 = some bx → tm.get 4 = some (.ptr (some (rc, 0))) → tm.get 6 = some (.sl o (strs L)) → tm.get 7 = some (.int .i64 ↑i) →
    ∃ tm' h', x = some (bif strangeL l en then .ret else .exit 0, tm', h') ∧ (strangeL l en = false → h' = h) ∧ (strangeL l en = true → h' = ⟨h.t.set rc (.cells zeroC), h.nx⟩ ∧ tm'.get 5 = some (.int .i64 1)) ∧ tm'.get 1 = some (.sl oe (strs en)) ∧ tm'.get 2 = some bx ∧ tm'.get 4 = some (.ptr (some (rc, 0)))
  | [], i, tm, x, hx, hd, hi, h1, h2, h4, h6, h7 => by
    have hlen := dnil hd hi
    have hty := e.ty
    have hpl := e.pl
    have hil := strs_len L
    obtain ⟨R, hR, hx⟩ := loop_step hx
    simp [b9_0, loopOf, Tryz.f9, loops, EVT, endL, evSeq, evOne, evAct, evOp, opKind, evPure, evRead, evNew, evWrite, evSlice, natOf, optVal, readAt, AV.cells, wantedA, putTm, val, allVals, evBin, evInt, evStr, evAppend, evMin, nilCmp, denseFrom, sizesAre, onesIn, evPlan, recheck, H.new, H.put, fillF, fillAt, allOne, AV.one, setArgs, evRes, resOf, ofVal, ofVal0, isShift, ikBeq, TYC, lp, hty, hpl, h1, h2, h4, h6, h7, hlen, hil, ltI_f] at hx
    exact ⟨_, _, by rw [← hx]; rfl, fun _ => rfl, by simp [strangeL], by simp [T.get_set_ite, h1], by simp [T.get_set_ite, h2], by simp [T.get_set_ite, h4]⟩
  | c :: l, i, tm, x, hx, hd, hi, h1, h2, h4, h6, h7 => by
    obtain ⟨hlt, hc, hd'⟩ := dcons hd
    have hty := e.ty
    have hpl := e.pl
    have hil := strs_len L
    have hat := strs_get hc
    have k := fun h => Tr.cHas e.hasR oe en c.s (by omega) h
    simp only [zeroC] at hrc
    obtain ⟨R, hR, hx⟩ := loop_step hx
    have hlt' := ltI_t hlt
    have hw := wr_succ (i := i) (by omega)
    cases hs : hasS en c.s with
    | false =>
      rw [hs] at k
      simp [b9_0, loopOf, Tryz.f9, loops, EVT, endL, evSeq, evOne, evAct, evOp, opKind, evPure, evRead, evNew, evWrite, evSlice, natOf, optVal, readAt, AV.cells, wantedA, putTm, val, allVals, evBin, evInt, evStr, evAppend, evMin, nilCmp, denseFrom, sizesAre, onesIn, evPlan, recheck, H.new, H.put, fillF, fillAt, allOne, AV.one, setArgs, evRes, resOf, ofVal, ofVal0, isShift, ikBeq, TYC, lp, hty, hpl, h1, h2, h4, h6, h7, hlt', hil, hat, k, hrc] at hx
      have e1 : strangeL (c :: l) en = true := by simp [strangeL, hs]
      rw [e1]
      exact ⟨_, _, by rw [← hx]; rfl, by simp, fun _ => ⟨rfl, by simp [T.get_set_ite]⟩, by simp [T.get_set_ite, h1], by simp [T.get_set_ite, h2], by simp [T.get_set_ite, h4]⟩
    | true =>
      rw [hs] at k
      simp [b9_0, loopOf, Tryz.f9, loops, EVT, endL, evSeq, evOne, evAct, evOp, opKind, evPure, evRead, evNew, evWrite, evSlice, natOf, optVal, readAt, AV.cells, wantedA, putTm, val, allVals, evBin, evInt, evStr, evAppend, evMin, nilCmp, denseFrom, sizesAre, onesIn, evPlan, recheck, H.new, H.put, fillF, fillAt, allOne, AV.one, setArgs, evRes, resOf, ofVal, ofVal0, isShift, ikBeq, TYC, lp, hty, hpl, h1, h2, h4, h6, h7, hlt', hil, hat, k, hw] at hx
      rw [hR] at hx
      have e1 : strangeL (c :: l) en = strangeL l en := by simp [strangeL, hs]
      rw [e1]
      exact loop9_0 e (o := o) hen hl hrc l (i + 1) hx hd' hlt (by simp [T.get_set_ite, h1]) (by simp [T.get_set_ite, h2]) (by simp [T.get_set_ite, h4]) (by simp [T.get_set_ite, h6]) (by simp [T.get_set_ite])
theorem loop9_1 {E : Env} (e : EOf E) {m id : Nat} {v1 v4 : AV} {w : Go.Ev.Own} {S : List Str} {F : List AV} {C : List (List Ins)} (hl : F.length ≤ 1000000) {h : H} (hm : h.t.get m = some (.cells [.rs id F.length true, .sl w (strs S)])) (hg : h.t.get id = some (.row F.length 54 1 F)) (hln : F.length = C.length) (hcs : ∀ (i : Nat) x c, F[i]? = some x → C[i]? = some c → CodeR h x c) : ∀ (l : List (List Ins)) (i : Nat) (b : Bool) {tm : Tm} {x : Option (Ex × Tm × H)}, cdL E 9 82 (.loop b9_1) tm h = x → l = C.drop i → i ≤ C.length →
    tm.get 1 = some v1 → tm.get 4 = some v4 → tm.get 8 = some (.ptr (some (m, 0))) → tm.get 9 = some (.bool b) → tm.get 10 = some (.int .i64 ↑i) →
    ∃ tm', x = some (.exit 2, tm', h) ∧ tm'.get 9 = some (.bool (b || longL l)) ∧ tm'.get 1 = some v1 ∧ tm'.get 4 = some v4 ∧ tm'.get 8 = some (.ptr (some (m, 0)))
  | [], i, b, tm, x, hx, hd, hi, h1, h4, h8, h9, h10 => by
    have hlen := dnil hd hi
    have hty := e.ty
    have hpl := e.pl
    rw [hln] at hm
    obtain ⟨R, hR, hx⟩ := loop_step hx
    simp [b9_1, loopOf, Tryz.f9, loops, EVT, endL, evSeq, evOne, evAct, evOp, opKind, evPure, evRead, evNew, evWrite, evSlice, natOf, optVal, readAt, AV.cells, wantedA, putTm, val, allVals, evBin, evInt, evStr, evAppend, evMin, nilCmp, denseFrom, sizesAre, onesIn, evPlan, recheck, H.new, H.put, fillF, fillAt, allOne, AV.one, setArgs, evRes, resOf, ofVal, ofVal0, isShift, ikBeq, TYC, lp, hty, hpl, h1, h4, h8, h9, h10, hm, hlen, ltI_f] at hx
    exact ⟨_, by rw [← hx], by simp [T.get_set_ite, h9, longL], by simp [T.get_set_ite, h1], by simp [T.get_set_ite, h4], by simp [T.get_set_ite, h8]⟩
  | c :: l, i, b, tm, x, hx, hd, hi, h1, h4, h8, h9, h10 => by
    obtain ⟨hlt, hc, hd'⟩ := dcons hd
    have hty := e.ty
    have hpl := e.pl
    have hfl : i < F.length := by omega
    have hfi : F[i]? = some F[i] := List.getElem?_eq_getElem hfl
    have hcr := hcs i F[i] c hfi hc
    obtain ⟨v, hve⟩ : ∃ v, F[i] = v := ⟨_, rfl⟩
    rw [hve] at hfi hcr
    have hcell := hcr.cell
    have hone := hcr.one
    obtain ⟨R, hR, hx⟩ := loop_step hx
    have hlt' := ltI_t hfl
    have hw := wr_succ (i := i) (by omega)
    have hbl : Nat.blt i F.length = true := blt_nat.2 hfl
    have hle : i + 1 ≤ F.length := hfl
    have go : x = R (((tm.set 9 (.bool (b || ltI 4000 ↑c.length))).set 10 (.int .i64 ↑(i + 1)))) h ∨ ∃ tm2, x = R tm2 h ∧ tm2.get 1 = some v1 ∧ tm2.get 4 = some v4 ∧ tm2.get 8 = some (.ptr (some (m, 0))) ∧ tm2.get 9 = some (.bool (b || ltI 4000 ↑c.length)) ∧ tm2.get 10 = some (.int .i64 ↑(i + 1)) := by
      cases b with
      | true =>
        simp [b9_1, loopOf, Tryz.f9, loops, EVT, endL, evSeq, evOne, evAct, evOp, opKind, evPure, evRead, evNew, evWrite, evSlice, natOf, optVal, readAt, AV.cells, wantedA, putTm, val, allVals, evBin, evInt, evStr, evAppend, evMin, nilCmp, denseFrom, sizesAre, onesIn, evPlan, recheck, H.new, H.put, fillF, fillAt, allOne, AV.one, setArgs, evRes, resOf, ofVal, ofVal0, isShift, ikBeq, TYC, lp, hty, hpl, h1, h4, h8, h9, h10, hm, hlt', hw] at hx
        exact .inr ⟨_, hx.symm, by simp [T.get_set_ite, h1], by simp [T.get_set_ite, h4], by simp [T.get_set_ite, h8], by simp [T.get_set_ite], by simp [T.get_set_ite]⟩
      | false =>
        rcases hcr with ⟨rfl, rfl⟩ | ⟨id', rfl, hg', hi'⟩
        · simp [b9_1, loopOf, Tryz.f9, loops, EVT, endL, evSeq, evOne, evAct, evOp, opKind, evPure, evRead, evNew, evWrite, evSlice, natOf, optVal, readAt, AV.cells, wantedA, putTm, val, allVals, evBin, evInt, evStr, evAppend, evMin, nilCmp, denseFrom, sizesAre, onesIn, evPlan, recheck, H.new, H.put, fillF, fillAt, allOne, AV.one, setArgs, evRes, resOf, ofVal, ofVal0, isShift, ikBeq, TYC, lp, hty, hpl, h1, h4, h8, h9, h10, hm, hlt', hg, hfi, hve, hfl, hbl, hle, hw] at hx
          exact .inr ⟨_, hx.symm, by simp [T.get_set_ite, h1], by simp [T.get_set_ite, h4], by simp [T.get_set_ite, h8], by simp [T.get_set_ite], by simp [T.get_set_ite]⟩
        · simp [b9_1, loopOf, Tryz.f9, loops, EVT, endL, evSeq, evOne, evAct, evOp, opKind, evPure, evRead, evNew, evWrite, evSlice, natOf, optVal, readAt, AV.cells, wantedA, putTm, val, allVals, evBin, evInt, evStr, evAppend, evMin, nilCmp, denseFrom, sizesAre, onesIn, evPlan, recheck, H.new, H.put, fillF, fillAt, allOne, AV.one, setArgs, evRes, resOf, ofVal, ofVal0, isShift, ikBeq, TYC, lp, hty, hpl, h1, h4, h8, h9, h10, hm, hlt', hg, hfi, hve, hfl, hbl, hle, hw] at hx
          exact .inr ⟨_, hx.symm, by simp [T.get_set_ite, h1], by simp [T.get_set_ite, h4], by simp [T.get_set_ite, h8], by simp [T.get_set_ite], by simp [T.get_set_ite]⟩
    have e1 : (b || longL (c :: l)) = ((b || ltI 4000 ↑c.length) || longL l) := by simp [longL, Bool.or_assoc]
    rw [e1]
    rcases go with hx | ⟨tm2, hx, g1, g4, g8, g9, g10⟩
    · rw [hR] at hx
      exact loop9_1 e hl hm hg hln hcs l (i + 1) _ hx.symm hd' hlt (by simp [T.get_set_ite, h1]) (by simp [T.get_set_ite, h4]) (by simp [T.get_set_ite, h8]) (by simp [T.get_set_ite]) (by simp [T.get_set_ite])
    · rw [hR] at hx
      exact loop9_1 e hl hm hg hln hcs l (i + 1) _ hx.symm hd' hlt g1 g4 g8 g9 g10
theorem of14_run {E : Env} (e : EOf E) (t : Nd) (hf : fit t) (en : List Str) (oe : Go.Ev.Own) (hen : en.length ≤ 100000) (hV : Tr.isR t = true → strangeL (Tr.freeRF t) en = false → Vd t.dep t en) (hfr : Tr.isR t = true → (Tr.freeRF t).length ≤ 1000000 ∧ Tr.qRF t) (h : H) :
    ∃ h' v, evL E 9 [t.av, .sl oe (strs en)] h = some (.tup [v, .int .i64 (ofF (Tr.isR t) (Tr.freeRF t) t en).2.2.2], h') ∧ h.nx ≤ h'.nx ∧ (∀ j, j < h.nx → h'.t.get j = h.t.get j) ∧
      PR h' v (ofF (Tr.isR t) (Tr.freeRF t) t en).1 (ofF (Tr.isR t) (Tr.freeRF t) t en).2.1 (ofF (Tr.isR t) (Tr.freeRF t) t en).2.2.1 := by
  have hty := e.ty
  have hpl := e.pl
  have hil := strs_len en
  have k14 : ∀ h, evL E 14 [t.av] h = some (.bool (Tr.isR t), h) := fun h => prim1_call (a := t) (F := Tr.isR) e.isR (Enc.bare 0 t) hf h
  have z1 : h.nx + 1 ≠ h.nx := by omega
  have z2 : h.nx ≠ h.nx + 1 := by omega
  have z3 : h.nx ≠ h.nx + 1 + 1 := by omega
  have z4 : h.nx + 1 ≠ h.nx + 1 + 1 := by omega
  have z5 : h.nx + 1 + 1 ≠ h.nx := by omega
  have z6 : h.nx + 1 + 1 ≠ h.nx + 1 := by omega
  obtain ⟨h0, hh0⟩ : ∃ h0 : H, h0 = ⟨(h.t.set h.nx (.cells [.str t.op, .str t.name, .str t.arg, .int .i64 t.n, .int .i64 t.at_, .sl .no (avs t.kids)])).set (h.nx + 1) (.cells zeroC), h.nx + 1 + 1⟩ := ⟨_, rfl⟩
  have old0 : ∀ j, j < h.nx → h0.t.get j = h.t.get j := fun j hj => by
    rw [hh0]
    simp only [T.get_set_ite]
    repeat rw [if_neg (by omega)]
  have rc0 : h0.t.get (h.nx + 1) = some (.cells zeroC) := by rw [hh0]; exact T.get_set _ _ _
  have nb0 : h0.t.get h.nx = some (.cells [.str t.op, .str t.name, .str t.arg, .int .i64 t.n, .int .i64 t.at_, .sl .no (avs t.kids)]) := by rw [hh0]; simp [T.get_set_ite, z2]
  obtain ⟨y, hy⟩ : ∃ y, evL E 9 [t.av, .sl oe (strs en)] h = y := ⟨_, rfl⟩
  rw [hy]
  rw [evL_fn E (e.no 9 (by simp)) (by rw [e.fn]; kernel_rfl) body9 _ _ rfl] at hy
  simp only [codeAt, condAt, sub, Tryz.f9] at hy
  rw [cells_ t] at k14 hy
  simp only [zeroC] at rc0 hh0
  cases hb0 : (!Tr.isR t || ltI 4 ↑en.length) with
  | true =>
    have eF : ofF (Tr.isR t) (Tr.freeRF t) t en = (0, [], [], 1) := by unfold ofF; rw [← Bool.or_assoc, hb0]; rfl
    rw [eF]
    refine ⟨⟨h0.t.set (h.nx + 1) (.cells zeroC), h.nx + 1 + 1⟩, _, ?_, by simp only; omega, fun j hj => ?_, .zero _⟩
    · cases his : Tr.isR t with
      | false =>
        rw [his] at k14
        simp [EVT, endL, evSeq, evOne, evAct, evOp, opKind, evPure, evRead, evNew, evWrite, evSlice, natOf, optVal, readAt, AV.cells, wantedA, putTm, val, allVals, evBin, evInt, evStr, evAppend, evMin, nilCmp, denseFrom, sizesAre, onesIn, evPlan, recheck, H.new, H.put, fillF, fillAt, allOne, AV.one, setArgs, evRes, resOf, ofVal, ofVal0, isShift, ikBeq, TYC, hty, hpl, k14, z1, z2, z3, z4, z5, z6] at hy
        rw [← hy, hh0]; rfl
      | true =>
        rw [his] at k14 hb0
        simp at hb0
        simp [EVT, endL, evSeq, evOne, evAct, evOp, opKind, evPure, evRead, evNew, evWrite, evSlice, natOf, optVal, readAt, AV.cells, wantedA, putTm, val, allVals, evBin, evInt, evStr, evAppend, evMin, nilCmp, denseFrom, sizesAre, onesIn, evPlan, recheck, H.new, H.put, fillF, fillAt, allOne, AV.one, setArgs, evRes, resOf, ofVal, ofVal0, isShift, ikBeq, TYC, hty, hpl, k14, hil, hb0, z1, z2, z3, z4, z5, z6] at hy
        rw [← hy, hh0]; rfl
    · rw [show (⟨h0.t.set (h.nx + 1) (Ev.Obj.cells zeroC), h.nx + 1 + 1⟩ : H).t.get j = h0.t.get j from T.get_set_ne _ _ (by omega)]
      exact old0 j hj
  | false =>
    simp only [Bool.or_eq_false_iff, Bool.not_eq_false'] at hb0
    obtain ⟨his, hl4⟩ := hb0
    obtain ⟨hs, he⟩ := is_size his
    have har := each_ar t he
    have hdp := dep_size t
    obtain ⟨hfl, hq⟩ := hfr his
    have k15 : ∀ h, evL E 15 [t.av] h = some (.sl .no (strs (Tr.freeRF t)), h) := fun h => prim1_call (a := t) (F := Tr.freeRF) e.freeR (Enc.bare 0 t) hq h
    rw [cells_ t] at k15
    rw [his] at k14
    simp [EVT, endL, evSeq, evOne, evAct, evOp, opKind, evPure, evRead, evNew, evWrite, evSlice, natOf, optVal, readAt, AV.cells, wantedA, putTm, val, allVals, evBin, evInt, evStr, evAppend, evMin, nilCmp, denseFrom, sizesAre, onesIn, evPlan, recheck, H.new, H.put, fillF, fillAt, allOne, AV.one, setArgs, evRes, resOf, ofVal, ofVal0, isShift, ikBeq, TYC, hty, hpl, k14, hil, hl4, k15, z1, z2, z3, z4, z5, z6] at hy
    generalize hx : cdL E 9 82 (.loop b9_0) _ _ = x at hy
    rw [← hh0] at hx
    obtain ⟨tm', h', ex, f1, f2, g1, g2, g4⟩ := loop9_0 e (o := .no) (oe := oe) (en := en) (L := Tr.freeRF t) (rc := h.nx + 1) (bx := .ptr (some (h.nx, 0))) (by omega) hfl rc0 (Tr.freeRF t) 0 hx rfl (Nat.zero_le _) (by simp [T.get_set_ite]) (by simp [T.get_set_ite]) (by simp [T.get_set_ite]) (by simp [T.get_set_ite]) (by simp [T.get_set_ite])
    subst ex
    cases hst : strangeL (Tr.freeRF t) en with
    | true =>
      obtain ⟨eh, g5⟩ := f2 hst
      have eF : ofF (Tr.isR t) (Tr.freeRF t) t en = (0, [], [], 1) := by unfold ofF; rw [hst]; simp
      rw [eF]
      have nx0 : h0.nx = h.nx + 1 + 1 := by rw [hh0]
      refine ⟨⟨h0.t.set (h.nx + 1) (.cells zeroC), h0.nx⟩, _, ?_, by simp only; omega, fun j hj => ?_, .zero _⟩
      · simp only [zeroC] at eh
        rw [hst, eh] at hy
        simp [EVT, endL, evSeq, evOne, evAct, evOp, opKind, evPure, evRead, evNew, evWrite, evSlice, natOf, optVal, readAt, AV.cells, wantedA, putTm, val, allVals, evBin, evInt, evStr, evAppend, evMin, nilCmp, denseFrom, sizesAre, onesIn, evPlan, recheck, H.new, H.put, fillF, fillAt, allOne, AV.one, setArgs, evRes, resOf, ofVal, ofVal0, isShift, ikBeq, TYC, hty, hpl, g4, g5] at hy
        rw [← hy]; rfl
      · rw [show (⟨h0.t.set (h.nx + 1) (Ev.Obj.cells zeroC), h0.nx⟩ : H).t.get j = h0.t.get j from T.get_set_ne _ _ (by omega)]
        exact old0 j hj
    | false =>
      have eh := f1 hst
      subst eh
      have eF : ofF (Tr.isR t) (Tr.freeRF t) t en = bif ltI 200 ↑(genFn (gen t.dep) t en [] 0).2.length || longL (genFn (gen t.dep) t en [] 0).2 then (0, [], [], 7) else (↑en.length, (genFn (gen t.dep) t en [] 0).2, (genFn (gen t.dep) t en [] 0).1, 0) := by unfold ofF; rw [hst, his, hl4]; rfl
      rw [eF]
      rw [hst] at hy
      have nx0 : h'.nx = h.nx + 1 + 1 := by rw [hh0]
      obtain ⟨h1, hh1⟩ : ∃ h1 : H, h1 = ⟨h'.t.set h'.nx (.cells [.sl .full [], .sl .full []]), h'.nx + 1⟩ := ⟨_, rfl⟩
      have M : MR h1 h'.nx (.sl .full []) [] .full [] [] := ⟨by rw [hh1]; exact T.get_set _ _ _, by rw [hh1]; exact Nat.lt_succ_self _, .inl ⟨rfl, rfl⟩, .inl ⟨rfl, rfl⟩, rfl, fun i x c hx => by simp at hx, fun i j x y id hx => by simp at hx⟩
      obtain ⟨h2, k26, fv2, F2, w2, M2, T2⟩ := fun14_run e.b (nr14_all e.b t.dep) t en oe (Nat.le_refl _) har (hV his hst) M (by simp; omega) (by simp; omega) (by omega) (by omega)
      simp only [List.nil_append, List.length_nil] at M2 k26
      have hlen := gen_len t.dep t en [] 1 0 har
      have hg2 : 0 < (genFn (gen t.dep) t en [] 0).2.length ∧ (genFn (gen t.dep) t en [] 0).2.length ≤ 3000 := by have := hlen.2.1; simp only [genFn, List.length_cons, Nat.zero_add]; omega
      generalize hG : genFn (gen t.dep) t en [] 0 = g at *
      have hln := M2.ln
      have nT : ∀ j, j < h'.nx → ¬ TR h'.nx (.sl .full []) [] .full j := by
        rintro j hj (h1 | h1 | h1 | ⟨x, hx, _⟩)
        · omega
        · simp [ridOf] at h1
        · cases h1
        · simp at hx
      have g01 : ∀ j, j < h'.nx → h1.t.get j = h'.t.get j := fun j hj => by rw [hh1]; exact T.get_set_ne _ _ (by omega)
      have nx1 : h1.nx = h'.nx + 1 := by rw [hh1]
      have keep : ∀ j, j < h'.nx → h2.t.get j = h'.t.get j := fun j hj => by rw [T2.keep j (by omega) (nT j hj), g01 j hj]
      have nb2 := (keep h.nx (by omega)).trans nb0
      have rc2 := (keep (h.nx + 1) (by omega)).trans rc0
      have old : ∀ j, j < h.nx → h2.t.get j = h.t.get j := fun j hj => (keep j (by omega)).trans (old0 j hj)
      have n2 : h'.nx + 1 ≤ h2.nx := by have := T2.nx; omega
      obtain ⟨fid, efv, gfv, fx⟩ : ∃ id, fv2 = .rs id F2.length true ∧ h2.t.get id = some (.row F2.length 54 1 F2) ∧ id < h2.nx := by
        rcases M2.fr with ⟨e1, e2⟩ | h
        · rw [e2] at hln; simp at hln; omega
        · exact h
      subst efv
      have gm2 := M2.gm
      rw [hh1] at k26
      have nb0' := nb0
      have m1 : h.nx ≠ h'.nx := by omega
      rw [cells_ t] at k26
      simp [EVT, endL, evSeq, evOne, evAct, evOp, opKind, evPure, evRead, evNew, evWrite, evSlice, natOf, optVal, readAt, AV.cells, wantedA, putTm, val, allVals, evBin, evInt, evStr, evAppend, evMin, nilCmp, denseFrom, sizesAre, onesIn, evPlan, recheck, H.new, H.put, fillF, fillAt, allOne, AV.one, setArgs, evRes, resOf, ofVal, ofVal0, isShift, ikBeq, TYC, hty, hpl, g1, g2, g4, nb0', m1, k26, gm2] at hy
      generalize hx2 : cdL E 9 82 (.loop b9_1) _ _ = x2 at hy
      obtain ⟨tm2, ex2, t9, t1, t4, t8⟩ := loop9_1 e (m := h'.nx) (id := fid) (w := w2) (S := g.1) (F := F2) (C := g.2) (v1 := .sl oe (strs en)) (v4 := .ptr (some (h.nx + 1, 0))) (by omega) gm2 gfv hln (fun i x c hx hc => M2.cs i x c hx hc) g.2 0 (ltI 200 ↑F2.length) hx2 rfl (Nat.zero_le _) (by simp [T.get_set_ite, g1]) (by simp [T.get_set_ite, g4]) (by simp [T.get_set_ite]) (by simp [T.get_set_ite]) (by simp [T.get_set_ite])
      subst ex2
      rw [hln] at t9
      have rn : h.nx + 1 ≠ h'.nx := by omega
      cases hb : (ltI 200 ↑g.2.length || longL g.2) with
      | true =>
        rw [hb] at t9
        simp [EVT, endL, evSeq, evOne, evAct, evOp, opKind, evPure, evRead, evNew, evWrite, evSlice, natOf, optVal, readAt, AV.cells, wantedA, putTm, val, allVals, evBin, evInt, evStr, evAppend, evMin, nilCmp, denseFrom, sizesAre, onesIn, evPlan, recheck, H.new, H.put, fillF, fillAt, allOne, AV.one, setArgs, evRes, resOf, ofVal, ofVal0, isShift, ikBeq, TYC, hty, hpl, t9, t1, t4, t8, rc2] at hy
        refine ⟨_, _, hy.symm, by simp only; omega, fun j hj => ?_, .zero _⟩
        rw [show (⟨h2.t.set (h.nx + 1) (Ev.Obj.cells [AV.int IntKind.i64 0, AV.sl .full [], AV.sl .full []]), h2.nx⟩ : H).t.get j = h2.t.get j from T.get_set_ne _ _ (by omega)]
        exact old j hj
      | false =>
        rw [hb] at t9
        simp [EVT, endL, evSeq, evOne, evAct, evOp, opKind, evPure, evRead, evNew, evWrite, evSlice, natOf, optVal, readAt, AV.cells, wantedA, putTm, val, allVals, evBin, evInt, evStr, evAppend, evMin, nilCmp, denseFrom, sizesAre, onesIn, evPlan, recheck, H.new, H.put, fillF, fillAt, allOne, AV.one, setArgs, evRes, resOf, ofVal, ofVal0, isShift, ikBeq, TYC, hty, hpl, t9, t1, t4, t8, rc2, hil, gm2] at hy
        have put : ∀ j, j ≠ h.nx + 1 → (⟨h2.t.set (h.nx + 1) (Ev.Obj.cells [AV.int IntKind.i64 ↑en.length, AV.rs fid F2.length true, AV.sl w2 (strs g.1)]), h2.nx⟩ : H).t.get j = h2.t.get j := fun j hj => T.get_set_ne _ _ hj
        have nf : fid ≠ h.nx + 1 := by rintro rfl; rw [rc2] at gfv; cases gfv
        refine ⟨_, _, hy.symm, by simp only; omega, fun j hj => (put j (by omega)).trans (old j hj), AV.rs fid F2.length true, w2, F2, rfl, .inr ⟨fid, rfl, (put fid nf).trans gfv, fx⟩, hln, fun i x c hx hc => (M2.cs i x c hx hc).mono (Nat.le_refl _) fun j hj hlt => put j ?_⟩
        rintro rfl
        exact (M2.cs i x c hx hc).nc rc2 hj
end Go.Proofs.YtogjplcnmibnlaaGreatDoor.Env
