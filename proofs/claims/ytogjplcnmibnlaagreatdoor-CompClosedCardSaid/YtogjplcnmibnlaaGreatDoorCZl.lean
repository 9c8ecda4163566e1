/- What is a program that was made; strange names, long codes: the library's loops. -/
import Derived.Test.YtogjplcnmibnlaaGreatDoorCZj
import Derived.Test.YtogjplcnmibnlaaGreatDoorCTQ
import Derived.Test.YtogjplcnmibnlaaGreatDoorCTW
set_option autoImplicit false
set_option maxRecDepth 100000
set_option linter.unusedSimpArgs false
set_option linter.unusedVariables false
set_option linter.unusedSectionVars false
set_option maxHeartbeats 4000000
namespace Go.Proofs.YtogjplcnmibnlaaGreatDoor.Env
open Go.Ev Go.Ev.Nd

/-- A program in the heap: its depth, its codes, its strings. -/
def PR (h : H) (v : AV) (d : Int) (C : List (List Ins)) (S : List Str) : Prop :=
  ∃ fv w F, v = .agg [.int .i64 d, fv, .sl w (strs S)] ∧ FunsR h fv F ∧ F.length = C.length ∧ ∀ (i : Nat) x c, F[i]? = some x → C[i]? = some c → CodeR h x c
theorem FunsR.mono {h h' : H} {v : AV} {F : List AV} (c : FunsR h v F) (hn : h.nx ≤ h'.nx) (hg : ∀ j, ridOf v = some j → j < h.nx → h'.t.get j = h.t.get j) : FunsR h' v F := by
  rcases c with e | ⟨id, e, hi, hlt⟩
  · exact .inl e
  · exact .inr ⟨id, e, by rw [hg id (by rw [e]; rfl) hlt]; exact hi, Nat.lt_of_lt_of_le hlt hn⟩
theorem PR.grow {h h' : H} {v : AV} {d : Int} {C : List (List Ins)} {S : List Str} (p : PR h v d C S) (hn : h.nx ≤ h'.nx) (hg : ∀ j, j < h.nx → h'.t.get j = h.t.get j) : PR h' v d C S := by
  obtain ⟨fv, w, F, e, f, l, c⟩ := p
  exact ⟨fv, w, F, e, f.mono hn fun j _ hj => hg j hj, l, fun i x k hx hk => (c i x k hx hk).mono hn fun j _ hj => hg j hj⟩
theorem FunsR.len {h : H} {v : AV} {F : List AV} (c : FunsR h v F) (hl : F.length ≤ 1000000) : (v = .sl .full [] ∧ F = []) ∨ ∃ id, v = .rs id F.length true ∧ h.t.get id = some (.row F.length 54 1 F) ∧ id < h.nx := c
/-- The machine, where programs are made: what is primitive, what is not. -/
structure EOf (E : Env) : Prop where
  ty : E.ty = env.ty
  pl : E.plan = env.plan
  fn : E.fns = env.fns
  no : ∀ k ∈ [8, 9, 10, 17, 20, 22, 23, 24, 26, 34, 38, 42, 43, 44, 45, 46, 69, 70, 71, 72, 73, 74, 75, 76, 77, 78, 79, 80, 81, 82, 83, 84, 113, 114, 115, 116, 117], E.prim k = none
  gr : E.prim 127 = some (primGrow 9 1 16)
  has : E.prim 18 = some Tr.pHasS
  hasR : E.prim 25 = some Tr.pHasS
  is : E.prim 19 = some Tr.pIsT
  isR : E.prim 14 = some Tr.pIsR
  free : E.prim 21 = some Tr.pTFree
  freeR : E.prim 15 = some Tr.pRFree
  size : E.prim 7 = some Tr.pSize
theorem EOf.a {E : Env} (e : EOf E) : EOk E := ⟨e.ty, e.pl, e.fn, fun k hk => e.no k (by simp only [List.mem_cons, List.not_mem_nil, or_false] at hk ⊢; omega), e.gr⟩
theorem EOf.b {E : Env} (e : EOf E) : EOk14 E := ⟨e.ty, e.pl, e.fn, fun k hk => e.no k (by simp only [List.mem_cons, List.not_mem_nil, or_false] at hk ⊢; omega)⟩
theorem body17 : Tryz.f17.body = some (codeAt Tryz.f17 []) := rfl
theorem strange_run {E : Env} (e : EOf E) {b : Nat} {oe : Go.Ev.Own} {en : List Str} (hen : en.length ≤ 1000000) {h : H} (hb : h.t.get b = some (.cells [.sl oe (strs en)])) (v : List Nat) :
    evL E 17 [.str v, .ptr (some (b, 0))] h = some (.bool (!hasS en v), h) := by
  have hty := e.ty
  have hpl := e.pl
  have k := fun h => Tr.cHas e.has oe en v (by omega) h
  rw [evL_fn E (e.no 17 (by simp)) (by rw [e.fn]; kernel_rfl) body17 _ _ rfl]
  simp only [codeAt, sub, Tryz.f17]
  simp [EVT, endL, evSeq, evOne, evAct, evOp, opKind, evPure, evRead, evNew, evWrite, evSlice, natOf, optVal, readAt, AV.cells, wantedA, putTm, val, allVals, evBin, evInt, evStr, evAppend, evMin, nilCmp, denseFrom, sizesAre, onesIn, evPlan, recheck, H.new, H.put, fillF, fillAt, allOne, AV.one, setArgs, evRes, resOf, ofVal, ofVal0, isShift, ikBeq, TYC, hty, hpl, hb, k]
/-- Is one of the names strange? -/
def strangeL (L en : List Str) : Bool := L.any fun t => !hasS en t.s
noncomputable def b38_0 : Code := loopOf Tryz.f38 0
theorem body38 : Tryz.f38.body = some (.seq (codeAt Tryz.f38 [0]) (.seq (.seq (codeAt Tryz.f38 [1, 0, 0]) (.block 0 (.loop b38_0))) (codeAt Tryz.f38 [1, 1]))) := rfl
theorem loop38 {E : Env} (e : EOf E) {b : Nat} {o oe : Go.Ev.Own} {L en : List Str} (hen : en.length ≤ 1000000) (hl : L.length ≤ 1000000) {h : H} (hb : h.t.get b = some (.cells [.sl oe (strs en)])) : ∀ (l : List Str) (i : Nat) {tm : Tm} {x : Option (Ex × Tm × H)}, cdL E 38 19 (.loop b38_0) tm h = x → l = L.drop i → i ≤ L.length →
    tm.get 0 = some (.sl o (strs L)) → tm.get 1 = some (.fn 17 [] [.ptr (some (b, 0))]) → tm.get 7 = some (.int .i64 ↑L.length) → tm.get 8 = some (.int .i64 ↑i) →
    ∃ tm', x = some (bif strangeL l en then .ret else .exit 0, tm', h) ∧ (strangeL l en = true → ∃ j : Nat, tm'.get 4 = some (.int .i64 ↑j))
  | [], i, tm, x, hx, hd, hi, h0, h1, h7, h8 => by
    have hlen := dnil hd hi
    have hty := e.ty
    have hpl := e.pl
    obtain ⟨R, hR, hx⟩ := loop_step hx
    simp [b38_0, loopOf, Tryz.f38, loops, EVT, endL, evSeq, evOne, evAct, evOp, opKind, evPure, evRead, evNew, evWrite, evSlice, natOf, optVal, readAt, AV.cells, wantedA, putTm, val, allVals, evBin, evInt, evStr, evAppend, evMin, nilCmp, denseFrom, sizesAre, onesIn, evPlan, recheck, H.new, H.put, fillF, fillAt, allOne, AV.one, setArgs, evRes, resOf, ofVal, ofVal0, isShift, ikBeq, TYC, lp, hty, hpl, h0, h1, h7, h8, hlen, ltI_f] at hx
    exact ⟨_, by rw [← hx]; rfl, by simp [strangeL]⟩
  | c :: l, i, tm, x, hx, hd, hi, h0, h1, h7, h8 => by
    obtain ⟨hlt, hc, hd'⟩ := dcons hd
    have hty := e.ty
    have hpl := e.pl
    have hat := strs_get hc
    have k := strange_run e hen hb c.s
    obtain ⟨R, hR, hx⟩ := loop_step hx
    have hlt' := ltI_t hlt
    have hw := wr_succ (i := i) (by omega)
    cases hs : hasS en c.s with
    | false =>
      rw [hs] at k
      simp [b38_0, loopOf, Tryz.f38, loops, EVT, endL, evSeq, evOne, evAct, evOp, opKind, evPure, evRead, evNew, evWrite, evSlice, natOf, optVal, readAt, AV.cells, wantedA, putTm, val, allVals, evBin, evInt, evStr, evAppend, evMin, nilCmp, denseFrom, sizesAre, onesIn, evPlan, recheck, H.new, H.put, fillF, fillAt, allOne, AV.one, setArgs, evRes, resOf, ofVal, ofVal0, isShift, ikBeq, TYC, lp, hty, hpl, h0, h1, h7, h8, hlt', hat, k] at hx
      exact ⟨_, by rw [← hx]; simp [strangeL, hs]; rfl, fun _ => ⟨i, by simp [T.get_set_ite]⟩⟩
    | true =>
      rw [hs] at k
      simp [b38_0, loopOf, Tryz.f38, loops, EVT, endL, evSeq, evOne, evAct, evOp, opKind, evPure, evRead, evNew, evWrite, evSlice, natOf, optVal, readAt, AV.cells, wantedA, putTm, val, allVals, evBin, evInt, evStr, evAppend, evMin, nilCmp, denseFrom, sizesAre, onesIn, evPlan, recheck, H.new, H.put, fillF, fillAt, allOne, AV.one, setArgs, evRes, resOf, ofVal, ofVal0, isShift, ikBeq, TYC, lp, hty, hpl, h0, h1, h7, h8, hlt', hat, k, hw] at hx
      rw [hR] at hx
      have e1 : strangeL (c :: l) en = strangeL l en := by simp [strangeL, hs]
      rw [e1]
      exact loop38 e (o := o) hen hl hb l (i + 1) hx hd' hlt (by simp [T.get_set_ite, h0]) (by simp [T.get_set_ite, h1]) (by simp [T.get_set_ite, h7]) (by simp [T.get_set_ite])
theorem body20 : Tryz.f20.body = some (codeAt Tryz.f20 []) := rfl
theorem any20_run {E : Env} (e : EOf E) {b : Nat} {o oe : Go.Ev.Own} {L en : List Str} (hen : en.length ≤ 1000000) (hl : L.length ≤ 1000000) {h : H} (hb : h.t.get b = some (.cells [.sl oe (strs en)])) :
    evL E 20 [.sl o (strs L), .fn 17 [] [.ptr (some (b, 0))]] h = some (.bool (strangeL L en), h) := by
  have hty := e.ty
  have hpl := e.pl
  have hil := strs_len L
  have K : ∃ n : Int, evL E 38 [.sl o (strs L), .fn 17 [] [.ptr (some (b, 0))]] h = some (.int .i64 n, h) ∧ ltI n 0 = !strangeL L en := by
    rw [evL_fn E (e.no 38 (by simp)) (by rw [e.fn]; kernel_rfl) body38 _ _ rfl]
    simp only [codeAt, sub, Tryz.f38]
    simp [EVT, endL, evSeq, evOne, evAct, evOp, opKind, evPure, evRead, evNew, evWrite, evSlice, natOf, optVal, readAt, AV.cells, wantedA, putTm, val, allVals, evBin, evInt, evStr, evAppend, evMin, nilCmp, denseFrom, sizesAre, onesIn, evPlan, recheck, H.new, H.put, fillF, fillAt, allOne, AV.one, setArgs, evRes, resOf, ofVal, ofVal0, isShift, ikBeq, TYC, hty, hpl, hil]
    generalize hx : cdL E 38 19 (.loop b38_0) _ _ = x
    obtain ⟨tm', rfl, g⟩ := loop38 e (o := o) hen hl hb L 0 hx rfl (Nat.zero_le _) (by simp [T.get_set_ite]) (by simp [T.get_set_ite]) (by simp [T.get_set_ite]) (by simp [T.get_set_ite])
    cases hs : strangeL L en with
    | true =>
      obtain ⟨j, hj⟩ := g hs
      refine ⟨↑j, by simp [EVT, endL, evSeq, evOne, evAct, evOp, opKind, evPure, evRead, evNew, evWrite, evSlice, natOf, optVal, readAt, AV.cells, wantedA, putTm, val, allVals, evBin, evInt, evStr, evAppend, evMin, nilCmp, denseFrom, sizesAre, onesIn, evPlan, recheck, H.new, H.put, fillF, fillAt, allOne, AV.one, setArgs, evRes, resOf, ofVal, ofVal0, isShift, ikBeq, TYC, hty, hpl, hj], ?_⟩
      rw [ltI_eq]; simp
    | false => exact ⟨-1, by simp [EVT, endL, evSeq, evOne, evAct, evOp, opKind, evPure, evRead, evNew, evWrite, evSlice, natOf, optVal, readAt, AV.cells, wantedA, putTm, val, allVals, evBin, evInt, evStr, evAppend, evMin, nilCmp, denseFrom, sizesAre, onesIn, evPlan, recheck, H.new, H.put, fillF, fillAt, allOne, AV.one, setArgs, evRes, resOf, ofVal, ofVal0, isShift, ikBeq, TYC, hty, hpl], rfl⟩
  obtain ⟨n, k, hn⟩ := K
  rw [evL_fn E (e.no 20 (by simp)) (by rw [e.fn]; kernel_rfl) body20 _ _ rfl]
  simp only [codeAt, sub, Tryz.f20]
  simp [EVT, endL, evSeq, evOne, evAct, evOp, opKind, evPure, evRead, evNew, evWrite, evSlice, natOf, optVal, readAt, AV.cells, wantedA, putTm, val, allVals, evBin, evInt, evStr, evAppend, evMin, nilCmp, denseFrom, sizesAre, onesIn, evPlan, recheck, H.new, H.put, fillF, fillAt, allOne, AV.one, setArgs, evRes, resOf, ofVal, ofVal0, isShift, ikBeq, TYC, hty, hpl, k, hn]
/-! Long codes -/
def longL (C : List (List Ins)) : Bool := C.any fun c => ltI 4000 ↑c.length
theorem body23 : Tryz.f23.body = some (codeAt Tryz.f23 []) := rfl
theorem long_run {E : Env} (e : EOf E) {h : H} {v : AV} {c : List Ins} (hc : CodeR h v c) : evL E 23 [v] h = some (.bool (ltI 4000 ↑c.length), h) := by
  have hty := e.ty
  have hpl := e.pl
  rw [evL_fn E (e.no 23 (by simp)) (by rw [e.fn]; kernel_rfl) body23 _ _ rfl]
  simp only [codeAt, sub, Tryz.f23]
  rcases hc with ⟨rfl, rfl⟩ | ⟨id, rfl, hg, hi⟩
  · simp [EVT, endL, evSeq, evOne, evAct, evOp, opKind, evPure, evRead, evNew, evWrite, evSlice, natOf, optVal, readAt, AV.cells, wantedA, putTm, val, allVals, evBin, evInt, evStr, evAppend, evMin, nilCmp, denseFrom, sizesAre, onesIn, evPlan, recheck, H.new, H.put, fillF, fillAt, allOne, AV.one, setArgs, evRes, resOf, ofVal, ofVal0, isShift, ikBeq, TYC, hty, hpl]
  · simp [EVT, endL, evSeq, evOne, evAct, evOp, opKind, evPure, evRead, evNew, evWrite, evSlice, natOf, optVal, readAt, AV.cells, wantedA, putTm, val, allVals, evBin, evInt, evStr, evAppend, evMin, nilCmp, denseFrom, sizesAre, onesIn, evPlan, recheck, H.new, H.put, fillF, fillAt, allOne, AV.one, setArgs, evRes, resOf, ofVal, ofVal0, isShift, ikBeq, TYC, hty, hpl]
noncomputable def b44_0 : Code := loopOf Tryz.f44 0
theorem body44 : Tryz.f44.body = some (.seq (codeAt Tryz.f44 [0]) (.seq (.seq (codeAt Tryz.f44 [1, 0, 0]) (.block 0 (.loop b44_0))) (codeAt Tryz.f44 [1, 1]))) := rfl
theorem CodeR.cell {h : H} {v : AV} {c : List Ins} (hc : CodeR h v c) : v.cells = [v] := by rcases hc with ⟨rfl, _⟩ | ⟨id, rfl, _⟩ <;> rfl
theorem loop44 {E : Env} (e : EOf E) {id : Nat} {F : List AV} {C : List (List Ins)} (hl : F.length ≤ 1000000) {h : H} (hg : h.t.get id = some (.row F.length 54 1 F)) (hln : F.length = C.length) (hcs : ∀ (i : Nat) x c, F[i]? = some x → C[i]? = some c → CodeR h x c) : ∀ (l : List (List Ins)) (i : Nat) {tm : Tm} {x : Option (Ex × Tm × H)}, cdL E 44 19 (.loop b44_0) tm h = x → l = C.drop i → i ≤ C.length →
    tm.get 0 = some (.rs id F.length true) → tm.get 1 = some (.fn 23 [] []) → tm.get 7 = some (.int .i64 ↑C.length) → tm.get 8 = some (.int .i64 ↑i) →
    ∃ tm', x = some (bif longL l then .ret else .exit 0, tm', h) ∧ (longL l = true → ∃ j : Nat, tm'.get 4 = some (.int .i64 ↑j))
  | [], i, tm, x, hx, hd, hi, h0, h1, h7, h8 => by
    have hlen := dnil hd hi
    have hty := e.ty
    have hpl := e.pl
    obtain ⟨R, hR, hx⟩ := loop_step hx
    simp [b44_0, loopOf, Tryz.f44, loops, EVT, endL, evSeq, evOne, evAct, evOp, opKind, evPure, evRead, evNew, evWrite, evSlice, natOf, optVal, readAt, AV.cells, wantedA, putTm, val, allVals, evBin, evInt, evStr, evAppend, evMin, nilCmp, denseFrom, sizesAre, onesIn, evPlan, recheck, H.new, H.put, fillF, fillAt, allOne, AV.one, setArgs, evRes, resOf, ofVal, ofVal0, isShift, ikBeq, TYC, lp, hty, hpl, h0, h1, h7, h8, hlen, ltI_f] at hx
    exact ⟨_, by rw [← hx]; rfl, by simp [longL]⟩
  | c :: l, i, tm, x, hx, hd, hi, h0, h1, h7, h8 => by
    obtain ⟨hlt, hc, hd'⟩ := dcons hd
    have hty := e.ty
    have hpl := e.pl
    have hfl : i < F.length := by omega
    have hfi : F[i]? = some F[i] := List.getElem?_eq_getElem hfl
    have hcr := hcs i F[i] c hfi hc
    obtain ⟨v, hve⟩ : ∃ v, F[i] = v := ⟨_, rfl⟩
    rw [hve] at hfi hcr
    have k := long_run e hcr
    have hcell := hcr.cell
    have hone := hcr.one
    obtain ⟨R, hR, hx⟩ := loop_step hx
    have hlt' := ltI_t hlt
    have hw := wr_succ (i := i) (by omega)
    have hbl : Nat.blt i F.length = true := blt_nat.2 hfl
    have hle : i + 1 ≤ F.length := hfl
    cases hs : ltI 4000 ↑c.length with
    | true =>
      rw [hs] at k
      simp [b44_0, loopOf, Tryz.f44, loops, EVT, endL, evSeq, evOne, evAct, evOp, opKind, evPure, evRead, evNew, evWrite, evSlice, natOf, optVal, readAt, AV.cells, wantedA, putTm, val, allVals, evBin, evInt, evStr, evAppend, evMin, nilCmp, denseFrom, sizesAre, onesIn, evPlan, recheck, H.new, H.put, fillF, fillAt, allOne, AV.one, setArgs, evRes, resOf, ofVal, ofVal0, isShift, ikBeq, TYC, lp, hty, hpl, h0, h1, h7, h8, hlt', hg, hfi, hve, hfl, hbl, hle, k] at hx
      exact ⟨_, by rw [← hx]; simp [longL, hs]; rfl, fun _ => ⟨i, by simp [T.get_set_ite]⟩⟩
    | false =>
      rw [hs] at k
      simp [b44_0, loopOf, Tryz.f44, loops, EVT, endL, evSeq, evOne, evAct, evOp, opKind, evPure, evRead, evNew, evWrite, evSlice, natOf, optVal, readAt, AV.cells, wantedA, putTm, val, allVals, evBin, evInt, evStr, evAppend, evMin, nilCmp, denseFrom, sizesAre, onesIn, evPlan, recheck, H.new, H.put, fillF, fillAt, allOne, AV.one, setArgs, evRes, resOf, ofVal, ofVal0, isShift, ikBeq, TYC, lp, hty, hpl, h0, h1, h7, h8, hlt', hg, hfi, hve, hfl, hbl, hle, k, hw] at hx
      rw [hR] at hx
      have e1 : longL (c :: l) = longL l := by simp [longL, hs]
      rw [e1]
      exact loop44 e hl hg hln hcs l (i + 1) hx hd' hlt (by simp [T.get_set_ite, h0]) (by simp [T.get_set_ite, h1]) (by simp [T.get_set_ite, h7]) (by simp [T.get_set_ite])
theorem body24 : Tryz.f24.body = some (codeAt Tryz.f24 []) := rfl
theorem any24_run {E : Env} (e : EOf E) {fv : AV} {F : List AV} {C : List (List Ins)} (hl : F.length ≤ 1000000) {h : H} (hf : FunsR h fv F) (hln : F.length = C.length) (hcs : ∀ (i : Nat) x c, F[i]? = some x → C[i]? = some c → CodeR h x c) :
    evL E 24 [fv, .fn 23 [] []] h = some (.bool (longL C), h) := by
  have hty := e.ty
  have hpl := e.pl
  have K : ∃ n : Int, evL E 44 [fv, .fn 23 [] []] h = some (.int .i64 n, h) ∧ ltI n 0 = !longL C := by
    rcases hf with ⟨rfl, rfl⟩ | ⟨id, rfl, hg, hi⟩
    · have : C = [] := List.eq_nil_of_length_eq_zero hln.symm
      subst this
      refine ⟨-1, ?_, rfl⟩
      rw [evL_fn E (e.no 44 (by simp)) (by rw [e.fn]; kernel_rfl) body44 _ _ rfl]
      simp only [codeAt, sub, Tryz.f44]
      simp [EVT, endL, evSeq, evOne, evAct, evOp, opKind, evPure, evRead, evNew, evWrite, evSlice, natOf, optVal, readAt, AV.cells, wantedA, putTm, val, allVals, evBin, evInt, evStr, evAppend, evMin, nilCmp, denseFrom, sizesAre, onesIn, evPlan, recheck, H.new, H.put, fillF, fillAt, allOne, AV.one, setArgs, evRes, resOf, ofVal, ofVal0, isShift, ikBeq, TYC, hty, hpl]
      generalize hx : cdL E 44 19 (.loop b44_0) _ _ = x
      obtain ⟨R, hR, hx⟩ := loop_step hx
      have h00 : ltI 0 0 = false := rfl
      simp [b44_0, loopOf, Tryz.f44, loops, EVT, endL, evSeq, evOne, evAct, evOp, opKind, evPure, evRead, evNew, evWrite, evSlice, natOf, optVal, readAt, AV.cells, wantedA, putTm, val, allVals, evBin, evInt, evStr, evAppend, evMin, nilCmp, denseFrom, sizesAre, onesIn, evPlan, recheck, H.new, H.put, fillF, fillAt, allOne, AV.one, setArgs, evRes, resOf, ofVal, ofVal0, isShift, ikBeq, TYC, lp, hty, hpl, h00] at hx
      rw [← hx]
      simp [EVT, endL, evSeq, evOne, evAct, evOp, opKind, evPure, evRead, evNew, evWrite, evSlice, natOf, optVal, readAt, AV.cells, wantedA, putTm, val, allVals, evBin, evInt, evStr, evAppend, evMin, nilCmp, denseFrom, sizesAre, onesIn, evPlan, recheck, H.new, H.put, fillF, fillAt, allOne, AV.one, setArgs, evRes, resOf, ofVal, ofVal0, isShift, ikBeq, TYC, hty, hpl]
    · rw [evL_fn E (e.no 44 (by simp)) (by rw [e.fn]; kernel_rfl) body44 _ _ rfl]
      simp only [codeAt, sub, Tryz.f44]
      simp [EVT, endL, evSeq, evOne, evAct, evOp, opKind, evPure, evRead, evNew, evWrite, evSlice, natOf, optVal, readAt, AV.cells, wantedA, putTm, val, allVals, evBin, evInt, evStr, evAppend, evMin, nilCmp, denseFrom, sizesAre, onesIn, evPlan, recheck, H.new, H.put, fillF, fillAt, allOne, AV.one, setArgs, evRes, resOf, ofVal, ofVal0, isShift, ikBeq, TYC, hty, hpl]
      generalize hx : cdL E 44 19 (.loop b44_0) _ _ = x
      obtain ⟨tm', rfl, g⟩ := loop44 e hl hg hln hcs C 0 hx rfl (Nat.zero_le _) (by simp [T.get_set_ite]) (by simp [T.get_set_ite]) (by simp [T.get_set_ite, hln]) (by simp [T.get_set_ite])
      cases hs : longL C with
      | true =>
        obtain ⟨j, hj⟩ := g hs
        refine ⟨↑j, by simp [EVT, endL, evSeq, evOne, evAct, evOp, opKind, evPure, evRead, evNew, evWrite, evSlice, natOf, optVal, readAt, AV.cells, wantedA, putTm, val, allVals, evBin, evInt, evStr, evAppend, evMin, nilCmp, denseFrom, sizesAre, onesIn, evPlan, recheck, H.new, H.put, fillF, fillAt, allOne, AV.one, setArgs, evRes, resOf, ofVal, ofVal0, isShift, ikBeq, TYC, hty, hpl, hj], ?_⟩
        rw [ltI_eq]; simp
      | false => exact ⟨-1, by simp [EVT, endL, evSeq, evOne, evAct, evOp, opKind, evPure, evRead, evNew, evWrite, evSlice, natOf, optVal, readAt, AV.cells, wantedA, putTm, val, allVals, evBin, evInt, evStr, evAppend, evMin, nilCmp, denseFrom, sizesAre, onesIn, evPlan, recheck, H.new, H.put, fillF, fillAt, allOne, AV.one, setArgs, evRes, resOf, ofVal, ofVal0, isShift, ikBeq, TYC, hty, hpl], rfl⟩
  obtain ⟨n, k, hn⟩ := K
  rw [evL_fn E (e.no 24 (by simp)) (by rw [e.fn]; kernel_rfl) body24 _ _ rfl]
  simp only [codeAt, sub, Tryz.f24]
  simp [EVT, endL, evSeq, evOne, evAct, evOp, opKind, evPure, evRead, evNew, evWrite, evSlice, natOf, optVal, readAt, AV.cells, wantedA, putTm, val, allVals, evBin, evInt, evStr, evAppend, evMin, nilCmp, denseFrom, sizesAre, onesIn, evPlan, recheck, H.new, H.put, fillF, fillAt, allOne, AV.one, setArgs, evRes, resOf, ofVal, ofVal0, isShift, ikBeq, TYC, hty, hpl, k, hn]
end Go.Proofs.YtogjplcnmibnlaaGreatDoor.Env
/- comp.Of makes the program that gen says. -/
set_option maxHeartbeats 8000000
namespace Go.Proofs.YtogjplcnmibnlaaGreatDoor.Env
open Go.Ev Go.Ev.Nd

/-- What Of answers: depth, codes, strings, an error's number. -/
def ofF (is : Bool) (free : List Str) (t : Nd) (en : List Str) : Int × List (List Ins) × List Str × Int :=
  bif !is || (ltI 4 ↑en.length || strangeL free en) then (0, [], [], 1) else
  bif ltI 200 ↑(genFn (gen t.dep) t en [] 0).2.length || longL (genFn (gen t.dep) t en [] 0).2 then (0, [], [], 7) else (↑en.length, (genFn (gen t.dep) t en [] 0).2, (genFn (gen t.dep) t en [] 0).1, 0)
theorem PR.zero (h : H) : PR h (.agg [.int .i64 0, .sl .full [], .sl .full []]) 0 [] [] := ⟨.sl .full [], .full, [], rfl, .inl ⟨rfl, rfl⟩, rfl, fun i x c hx => by simp at hx⟩
theorem dep_size : ∀ t : Nd, t.dep ≤ t.size := by
  intro t
  have h : ∀ (n : Nat) (t : Nd), t.size ≤ n → t.dep ≤ t.size := by
    intro n
    induction n with
    | zero => intro t ht; have := size_eq t; omega
    | succ n ih =>
      intro t ht
      have hs := size_eq t
      have hd := dep_eq t
      have key : ∀ l : List Nd, sizes l ≤ n → deps l ≤ sizes l := by
        intro l
        induction l with
        | nil => intro _; simp [deps, sizes]
        | cons a l ihl =>
          intro hl
          simp only [sizes] at hl
          have h1 := ih a (by omega)
          have h2 := ihl (by omega)
          simp only [deps, sizes]
          have : a.dep = dep a := rfl
          omega
      have := key t.kids (by omega)
      omega
  exact h t.size t (Nat.le_refl _)
theorem ar_known {o : List Nat} {k : Nat} (h : arity o = some k) : Tr.kidsF o = ↑k := by
  unfold arity at h
  cases c0 : natsBeq o oFun with
  | true => rw [c0] at h; simp at h; subst h; rw [nb_of c0]; rfl
  | false =>
  rw [c0] at h
  cases c1 : natsBeq o oLet with
  | true => rw [c1] at h; simp at h; subst h; rw [nb_of c1]; rfl
  | false =>
  rw [c1] at h
  cases c2 : natsBeq o oRec with
  | true => rw [c2] at h; simp at h; subst h; rw [nb_of c2]; rfl
  | false =>
  rw [c2] at h
  cases c3 : natsBeq o oTry with
  | true => rw [c3] at h; simp at h; subst h; rw [nb_of c3]; rfl
  | false =>
  rw [c3] at h
  cases c4 : natsBeq o oSeq with
  | true => rw [c4] at h; simp at h; subst h; rw [nb_of c4]; rfl
  | false =>
  rw [c4] at h
  cases c5 : natsBeq o oIf with
  | true => rw [c5] at h; simp at h; subst h; rw [nb_of c5]; rfl
  | false =>
  rw [c5] at h
  cases c6 : natsBeq o oMatch with
  | true => rw [c6] at h; simp at h; subst h; rw [nb_of c6]; rfl
  | false => rw [c6] at h; simp at h
mutual
theorem each_ar : ∀ t : Nd, Tr.eachF t = true → arOk t = true
  | .mk o p q n a ks, h => by
    rw [Tr.eachF_eq] at h
    simp only [Bool.and_eq_true, Nd.op, Nd.kids] at h
    have hk := intBeq_iff.1 h.1
    simp only [arOk, Bool.and_eq_true]
    refine ⟨?_, each_arL ks h.2.2⟩
    cases ha : arity o with
    | none => rfl
    | some k =>
      have := ar_known ha
      rw [hk] at this
      simp only
      exact beq_nat.2 (by omega)
theorem each_arL : ∀ l : List Nd, Tr.eachL l = true → arOkL l = true
  | [], _ => rfl
  | t :: l, h => by
    simp only [Tr.eachL, Bool.and_eq_true] at h
    simp only [arOkL, Bool.and_eq_true]
    exact ⟨each_ar t h.1, each_arL l h.2⟩
end
theorem is_size {t : Nd} (h : Tr.isR t = true) : t.size ≤ 2000 ∧ Tr.eachF t = true := by
  unfold Tr.isR at h
  cases hb : ltI 2000 (Tr.sizeF t) with
  | true => rw [hb] at h; simp at h
  | false =>
    rw [hb] at h
    simp only [cond_false] at h
    rw [ltI_eq] at hb
    simp at hb
    unfold Tr.sizeF at hb
    have := Tr.szF_size t 2001 (by omega)
    rw [this] at hb
    exact ⟨by omega, h⟩
theorem body8 : Tryz.f8.body = some (codeAt Tryz.f8 []) := rfl
theorem of_run {E : Env} (e : EOf E) (t : Nd) (hf : fit t) (en : List Str) (oe : Go.Ev.Own) (hen : en.length ≤ 100000) (h : H) :
    ∃ h' v, evL E 8 [t.av, .sl oe (strs en)] h = some (.tup [v, .int .i64 (ofF (Tr.isR t) (Tr.freeT t) t en).2.2.2], h') ∧ h.nx ≤ h'.nx ∧ (∀ j, j < h.nx → h'.t.get j = h.t.get j) ∧
      PR h' v (ofF (Tr.isR t) (Tr.freeT t) t en).1 (ofF (Tr.isR t) (Tr.freeT t) t en).2.1 (ofF (Tr.isR t) (Tr.freeT t) t en).2.2.1 := by
  have hty := e.ty
  have hpl := e.pl
  have hil := strs_len en
  have k19 : ∀ h, evL E 19 [t.av] h = some (.bool (Tr.isR t), h) := fun h => prim1_call (a := t) (F := Tr.isR) e.is (Enc.bare 0 t) hf h
  have z1 : h.nx + 1 ≠ h.nx := by omega
  have z2 : h.nx ≠ h.nx + 1 := by omega
  have z3 : h.nx ≠ h.nx + 1 + 1 := by omega
  have z4 : h.nx + 1 ≠ h.nx + 1 + 1 := by omega
  have z5 : h.nx + 1 + 1 ≠ h.nx := by omega
  have z6 : h.nx + 1 + 1 ≠ h.nx + 1 := by omega
  have z7 : h.nx ≠ h.nx + 1 + 1 + 1 := by omega
  have z8 : h.nx + 1 ≠ h.nx + 1 + 1 + 1 := by omega
  have z9 : h.nx + 1 + 1 ≠ h.nx + 1 + 1 + 1 := by omega
  have errs : ∀ k : Int, (∃ h', evL E 8 [t.av, .sl oe (strs en)] h = some (.tup [.agg [.int .i64 0, .sl .full [], .sl .full []], .int .i64 k], h') ∧ h.nx ≤ h'.nx ∧ ∀ j, j < h.nx → h'.t.get j = h.t.get j) →
      ∃ h' v, evL E 8 [t.av, .sl oe (strs en)] h = some (.tup [v, .int .i64 k], h') ∧ h.nx ≤ h'.nx ∧ (∀ j, j < h.nx → h'.t.get j = h.t.get j) ∧ PR h' v 0 [] [] := fun k ⟨h', a, b, c⟩ => ⟨h', _, a, b, c, .zero h'⟩
  have first : ∀ (b : Bool), (!Tr.isR t || (ltI 4 ↑en.length || strangeL (Tr.freeT t) en)) = true → ∃ h', evL E 8 [t.av, .sl oe (strs en)] h = some (.tup [.agg [.int .i64 0, .sl .full [], .sl .full []], .int .i64 1], h') ∧ h.nx ≤ h'.nx ∧ ∀ j, j < h.nx → h'.t.get j = h.t.get j := by
    intro b hb
    obtain ⟨y, hy⟩ : ∃ y, evL E 8 [t.av, .sl oe (strs en)] h = y := ⟨_, rfl⟩
    rw [hy]
    rw [evL_fn E (e.no 8 (by simp)) (by rw [e.fn]; kernel_rfl) body8 _ _ rfl] at hy
    simp only [codeAt, condAt, sub, Tryz.f8] at hy
    rw [cells_ t] at k19 hy
    cases his : Tr.isR t with
    | false =>
      rw [his] at k19
      simp [EVT, endL, evSeq, evOne, evAct, evOp, opKind, evPure, evRead, evNew, evWrite, evSlice, natOf, optVal, readAt, AV.cells, wantedA, putTm, val, allVals, evBin, evInt, evStr, evAppend, evMin, nilCmp, denseFrom, sizesAre, onesIn, evPlan, recheck, H.new, H.put, fillF, fillAt, allOne, AV.one, setArgs, evRes, resOf, ofVal, ofVal0, isShift, ikBeq, TYC, hty, hpl, k19, z1, z2, z3, z4, z5, z6] at hy
      refine ⟨_, hy.symm, by simp only; omega, fun j hj => ?_⟩
      simp only [T.get_set_ite]
      repeat rw [if_neg (by omega)]
    | true =>
      rw [his] at k19
      cases hl4 : ltI 4 ↑en.length with
      | true =>
        simp [EVT, endL, evSeq, evOne, evAct, evOp, opKind, evPure, evRead, evNew, evWrite, evSlice, natOf, optVal, readAt, AV.cells, wantedA, putTm, val, allVals, evBin, evInt, evStr, evAppend, evMin, nilCmp, denseFrom, sizesAre, onesIn, evPlan, recheck, H.new, H.put, fillF, fillAt, allOne, AV.one, setArgs, evRes, resOf, ofVal, ofVal0, isShift, ikBeq, TYC, hty, hpl, k19, hil, hl4, z1, z2, z3, z4, z5, z6] at hy
        refine ⟨_, hy.symm, by simp only; omega, fun j hj => ?_⟩
        simp only [T.get_set_ite]
        repeat rw [if_neg (by omega)]
      | false =>
        obtain ⟨hs, he⟩ := is_size his
        have k21 : ∀ h, evL E 21 [t.av] h = some (.sl .no (strs (Tr.freeT t)), h) := fun h => prim1_call (a := t) (F := Tr.freeT) e.free (Enc.bare 0 t) ⟨hf, by omega⟩ h
        have hfl : (Tr.freeT t).length ≤ 1000000 := by have := Tr.freeT_len t; omega
        have k20 := fun (h' : H) (hb : h'.t.get (h.nx + 1) = some (.cells [.sl oe (strs en)])) => any20_run e (b := h.nx + 1) (o := .no) (oe := oe) (L := Tr.freeT t) (en := en) (by omega) hfl hb
        rw [his, hl4] at hb
        simp at hb
        rw [hb] at k20
        rw [cells_ t] at k21
        have k20' := k20 ⟨((h.t.set h.nx (.cells [.str t.op, .str t.name, .str t.arg, .int .i64 t.n, .int .i64 t.at_, .sl .no (avs t.kids)])).set (h.nx + 1) (.cells [.sl oe (strs en)])).set (h.nx + 1 + 1) (.cells [.int .i64 0, .sl .full [], .sl .full []]), h.nx + 1 + 1 + 1⟩ (by simp [T.get_set_ite, z4])
        simp [EVT, endL, evSeq, evOne, evAct, evOp, opKind, evPure, evRead, evNew, evWrite, evSlice, natOf, optVal, readAt, AV.cells, wantedA, putTm, val, allVals, evBin, evInt, evStr, evAppend, evMin, nilCmp, denseFrom, sizesAre, onesIn, evPlan, recheck, H.new, H.put, fillF, fillAt, allOne, AV.one, setArgs, evRes, resOf, ofVal, ofVal0, isShift, ikBeq, TYC, hty, hpl, k19, hil, hl4, k21, k20', z1, z2, z3, z4, z5, z6] at hy
        refine ⟨_, hy.symm, by simp only; omega, fun j hj => ?_⟩
        simp only [T.get_set_ite]
        repeat rw [if_neg (by omega)]
  cases hb : (!Tr.isR t || (ltI 4 ↑en.length || strangeL (Tr.freeT t) en)) with
  | true =>
    have eF : ofF (Tr.isR t) (Tr.freeT t) t en = (0, [], [], 1) := by unfold ofF; rw [hb]; rfl
    rw [eF]
    exact errs 1 (first true hb)
  | false =>
    have eF : ofF (Tr.isR t) (Tr.freeT t) t en = bif ltI 200 ↑(genFn (gen t.dep) t en [] 0).2.length || longL (genFn (gen t.dep) t en [] 0).2 then (0, [], [], 7) else (↑en.length, (genFn (gen t.dep) t en [] 0).2, (genFn (gen t.dep) t en [] 0).1, 0) := by unfold ofF; rw [hb]; rfl
    rw [eF]
    simp only [Bool.or_eq_false_iff, Bool.not_eq_false'] at hb
    obtain ⟨his, hl4, hst⟩ := hb
    obtain ⟨hs, he⟩ := is_size his
    have har := each_ar t he
    have hdp := dep_size t
    have hfl : (Tr.freeT t).length ≤ 1000000 := by have := Tr.freeT_len t; omega
    have k21 : ∀ h, evL E 21 [t.av] h = some (.sl .no (strs (Tr.freeT t)), h) := fun h => prim1_call (a := t) (F := Tr.freeT) e.free (Enc.bare 0 t) ⟨hf, by omega⟩ h
    -- the heap with the boxes and the maker
    obtain ⟨h0, hh0⟩ : ∃ h0 : H, h0 = ⟨((h.t.set h.nx (.cells [.str t.op, .str t.name, .str t.arg, .int .i64 t.n, .int .i64 t.at_, .sl .no (avs t.kids)])).set (h.nx + 1) (.cells [.sl oe (strs en)])).set (h.nx + 1 + 1) (.cells [.int .i64 0, .sl .full [], .sl .full []]), h.nx + 1 + 1 + 1⟩ := ⟨_, rfl⟩
    have k20 := any20_run e (b := h.nx + 1) (o := .no) (oe := oe) (L := Tr.freeT t) (en := en) (h := h0) (by omega) hfl (by rw [hh0]; simp [T.get_set_ite, z4])
    rw [hst] at k20
    obtain ⟨h1, hh1⟩ : ∃ h1 : H, h1 = ⟨h0.t.set (h.nx + 1 + 1 + 1) (.cells [.int .i64 ↑en.length, .sl .full [], .sl .full []]), h.nx + 1 + 1 + 1 + 1⟩ := ⟨_, rfl⟩
    have M : MS h1 (h.nx + 1 + 1 + 1) ↑en.length (.sl .full []) [] .full [] := ⟨by rw [hh1]; exact T.get_set _ _ _, by rw [hh1]; exact Nat.lt_succ_self _, .inl ⟨rfl, rfl⟩, .inl ⟨rfl, rfl⟩⟩
    obtain ⟨h2, fv2, N2, w2, k22, M2, R2, st⟩ := fun_run e.a (nr_all e.a t.dep) t en oe (Nat.le_refl _) har M (by simp; omega) (by simp; omega) (by omega) (by omega)
    simp only [List.nil_append, List.length_nil] at M2 R2 k22
    have hlen := gen_len t.dep t en [] 1 0 har
    have hg2 : 0 < (genFn (gen t.dep) t en [] 0).2.length ∧ (genFn (gen t.dep) t en [] 0).2.length ≤ 3000 := by have := hlen.2.1; simp only [genFn, List.length_cons, Nat.zero_add]; omega
    generalize hG : genFn (gen t.dep) t en [] 0 = g at *
    have hln := R2.1
    have hcs : ∀ (i : Nat) x c, N2[i]? = some x → g.2[i]? = some c → CodeR h2 x c := fun i x c hx hc => (R2.2 i x c hx hc).1
    have k24 := any24_run e (h := h2) (by omega) M2.fr hln hcs
    have nx1 : h1.nx = h.nx + 1 + 1 + 1 + 1 := by rw [hh1]
    have nT : ∀ j, j < h.nx + 1 + 1 + 1 → ¬ Tm0 (h.nx + 1 + 1 + 1) (.sl .full []) .full j := by
      rintro j hj (h1 | h1 | h1 | h1 | h1)
      · omega
      · omega
      · simp [ridOf] at h1
      · cases h1
      · simp [ridOf] at h1
    have keep : ∀ j, j < h.nx + 1 + 1 + 1 → h2.t.get j = h1.t.get j := fun j hj => st.keep j (by omega) (nT j hj)
    have b0 : h2.t.get (h.nx) = some (.cells [.str t.op, .str t.name, .str t.arg, .int .i64 t.n, .int .i64 t.at_, .sl .no (avs t.kids)]) := by rw [keep _ (by omega), hh1, hh0]; simp [T.get_set_ite, z2, z3, z7]
    have b1 : h2.t.get (h.nx + 1) = some (.cells [.sl oe (strs en)]) := by rw [keep _ (by omega), hh1, hh0]; simp [T.get_set_ite, z4, z8]
    have b2 : h2.t.get (h.nx + 1 + 1) = some (.cells [.int .i64 0, .sl .full [], .sl .full []]) := by rw [keep _ (by omega), hh1, hh0]; simp [T.get_set_ite, z9]
    have old : ∀ j, j < h.nx → h2.t.get j = h.t.get j := fun j hj => by
      rw [keep j (by omega), hh1, hh0]
      simp only [T.get_set_ite]
      repeat rw [if_neg (by omega)]
    have n2 : h.nx + 1 + 1 + 1 + 1 ≤ h2.nx := by have := st.nx; omega
    have gm2 := M2.gm
    obtain ⟨fid, efv, gfv, fx⟩ : ∃ id, fv2 = .rs id N2.length true ∧ h2.t.get id = some (.row N2.length 54 1 N2) ∧ id < h2.nx := by
      rcases M2.fr with ⟨e1, e2⟩ | h
      · rw [e2] at hln; simp at hln; omega
      · exact h
    subst efv
    have hone := M2.fr.one
    obtain ⟨y, hy⟩ : ∃ y, evL E 8 [t.av, .sl oe (strs en)] h = y := ⟨_, rfl⟩
    rw [hy]
    rw [evL_fn E (e.no 8 (by simp)) (by rw [e.fn]; kernel_rfl) body8 _ _ rfl] at hy
    simp only [codeAt, condAt, sub, Tryz.f8] at hy
    rw [cells_ t] at k19 k21 k22 hy
    rw [his] at k19
    rw [hh0] at k20
    rw [hh1, hh0] at k22
    have m1 : h.nx + 1 + 1 + 1 ≠ h.nx + 1 + 1 := by omega
    have m2 : h.nx + 1 + 1 + 1 ≠ h.nx + 1 := by omega
    have m3 : h.nx + 1 + 1 + 1 ≠ h.nx := by omega
    rw [hln] at k24 gm2
    cases hb1 : ltI 200 ↑g.2.length with
    | true =>
      simp [EVT, endL, evSeq, evOne, evAct, evOp, opKind, evPure, evRead, evNew, evWrite, evSlice, natOf, optVal, readAt, AV.cells, wantedA, putTm, val, allVals, evBin, evInt, evStr, evAppend, evMin, nilCmp, denseFrom, sizesAre, onesIn, evPlan, recheck, H.new, H.put, fillF, fillAt, allOne, AV.one, setArgs, evRes, resOf, ofVal, ofVal0, isShift, ikBeq, TYC, hty, hpl, k19, hil, hl4, k21, k20, k22, b0, b1, b2, gm2, hb1, z1, z2, z3, z4, z5, z6, z7, z8, z9, m1, m2, m3] at hy
      refine ⟨_, _, hy.symm, by simp only; omega, fun j hj => ?_, .zero _⟩
      rw [show (⟨h2.t.set (h.nx + 1 + 1) (Ev.Obj.cells [AV.int IntKind.i64 0, AV.sl .full [], AV.sl .full []]), h2.nx⟩ : H).t.get j = h2.t.get j from T.get_set_ne _ _ (by omega)]
      exact old j hj
    | false =>
      cases hb2 : longL g.2 with
      | true =>
        rw [hb2] at k24
        simp [EVT, endL, evSeq, evOne, evAct, evOp, opKind, evPure, evRead, evNew, evWrite, evSlice, natOf, optVal, readAt, AV.cells, wantedA, putTm, val, allVals, evBin, evInt, evStr, evAppend, evMin, nilCmp, denseFrom, sizesAre, onesIn, evPlan, recheck, H.new, H.put, fillF, fillAt, allOne, AV.one, setArgs, evRes, resOf, ofVal, ofVal0, isShift, ikBeq, TYC, hty, hpl, k19, hil, hl4, k21, k20, k22, b0, b1, b2, gm2, hb1, k24, z1, z2, z3, z4, z5, z6, z7, z8, z9, m1, m2, m3] at hy
        refine ⟨_, _, hy.symm, by simp only; omega, fun j hj => ?_, .zero _⟩
        rw [show (⟨h2.t.set (h.nx + 1 + 1) (Ev.Obj.cells [AV.int IntKind.i64 0, AV.sl .full [], AV.sl .full []]), h2.nx⟩ : H).t.get j = h2.t.get j from T.get_set_ne _ _ (by omega)]
        exact old j hj
      | false =>
        rw [hb2] at k24
        simp [EVT, endL, evSeq, evOne, evAct, evOp, opKind, evPure, evRead, evNew, evWrite, evSlice, natOf, optVal, readAt, AV.cells, wantedA, putTm, val, allVals, evBin, evInt, evStr, evAppend, evMin, nilCmp, denseFrom, sizesAre, onesIn, evPlan, recheck, H.new, H.put, fillF, fillAt, allOne, AV.one, setArgs, evRes, resOf, ofVal, ofVal0, isShift, ikBeq, TYC, hty, hpl, k19, hil, hl4, k21, k20, k22, b0, b1, b2, gm2, hb1, k24, z1, z2, z3, z4, z5, z6, z7, z8, z9, m1, m2, m3] at hy
        have put : ∀ j, j ≠ h.nx + 1 + 1 → (⟨h2.t.set (h.nx + 1 + 1) (Ev.Obj.cells [AV.int IntKind.i64 ↑en.length, AV.rs fid g.2.length true, AV.sl w2 (strs g.1)]), h2.nx⟩ : H).t.get j = h2.t.get j := fun j hj => T.get_set_ne _ _ hj
        have nf : fid ≠ h.nx + 1 + 1 := by rintro rfl; rw [b2] at gfv; cases gfv
        refine ⟨_, _, hy.symm, by simp only; omega, fun j hj => (put j (by omega)).trans (old j hj), AV.rs fid g.2.length true, w2, N2, rfl, .inr ⟨fid, by rw [hln], (put fid nf).trans gfv, fx⟩, hln, fun i x c hx hc => (hcs i x c hx hc).mono (Nat.le_refl _) fun j hj hlt => put j ?_⟩
        rintro rfl
        exact (hcs i x c hx hc).nc b2 hj
def zeroC : List AV := [.int .i64 0, .sl .full [], .sl .full []]
end Go.Proofs.YtogjplcnmibnlaaGreatDoor.Env
