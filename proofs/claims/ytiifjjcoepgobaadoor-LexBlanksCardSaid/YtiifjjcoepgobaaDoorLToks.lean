/- All tokens of a text: the program's. -/
import Derived.Test.YtiifjjcoepgobaaDoorLTok
set_option autoImplicit false
set_option maxRecDepth 100000
set_option linter.unusedSimpArgs false
set_option linter.unusedVariables false
namespace Go.Proofs.YtiifjjcoepgobaaDoor.Env
open Go.Ev

noncomputable def env7 : Env := addPrim env6 13 (primPure (pSA tokRes))
theorem isTok_pure {v : AV} (h : isTok v) : v.pure = true ∧ v.forget = v := by
  obtain ⟨x1, x2, x3, x4, n, b, rfl⟩ := h
  exact ⟨rfl, rfl⟩
theorem tokRes_pure (s : List Nat) (a : Nat) : (tokRes s a).pure = true ∧ (tokRes s a).forget = tokRes s a := by
  unfold tokRes
  cases s[a]? with
  | none => exact ⟨rfl, rfl⟩
  | some c =>
    simp only
    cases pLetter ↑c with
    | true => exact isTok_pure (nameRes_tok s a)
    | false =>
      cases pDigit ↑c with
      | true => exact isTok_pure (numRes_tok s a)
      | false =>
        cases intBeq ↑c 34 with
        | true => exact isTok_pure (textRes_tok s a)
        | false => exact isTok_pure (signRes_tok s a)
theorem p13_ok : PrimOk Tryd.prog 13 (primPure (pSA tokRes)) := pSA_ok env6_ok Tryd.func13 (by kernel_rfl) (by kernel_rfl) (fun s a h1 h2 => ⟨40, token_run s a h1 h2 0⟩) tokRes_pure
theorem env7_ok : EnvOk Tryd.prog env7 := addPrim_ok env6_ok p13_ok
theorem e7_8 : env7.prim 8 = none := by kernel_rfl
theorem f7_8 : env7.fns 8 = some Tryd.f8 := by kernel_rfl
theorem e7_13 : env7.prim 13 = some (primPure (pSA tokRes)) := by kernel_rfl
theorem t7_9 : env7.ty 9 = some { kind := TK.str, sz := 1, byt := 16, zero := some (AV.str []), ag := false, eqf := none } := by kernel_rfl
theorem t7_22 : env7.ty 22 = some { kind := TK.sl 33, sz := 1, byt := 24, zero := some (AV.sl Own.full []), ag := false, eqf := none } := by kernel_rfl
theorem t7_33 : env7.ty 33 = some { kind := TK.st [(0, 1, false), (1, 1, false), (2, 1, false), (3, 1, false)], sz := 4, byt := 40, zero := some (AV.agg [AV.int IntKind.i64 0, AV.str [], AV.int IntKind.i64 0, AV.int IntKind.i64 0]), ag := true, eqf := some [(0, 0), (1, 1), (2, 0), (3, 0)] } := by kernel_rfl
noncomputable def b8 : Code := loopOf Tryd.f8 0
def isBlank (c : Nat) : Bool := intBeq ↑c 32 || (intBeq ↑c 9 || intBeq ↑c 10)
structure R8 (s : List Nat) (a : Nat) (o : Own) (l : List AV) (tm : Tm) : Prop where
  g0 : tm.get 0 = some (.str s)
  g2 : tm.get 2 = some (.sl o l)
  g3 : tm.get 3 = some (.int .i64 ↑a)
theorem blank8 (call : CallF) (s : List Nat) (a : Nat) (o : Own) (l : List AV) (tm : Tm) (h : H) (k : Nat) (c : Nat) (R : R8 s a o l tm) (hl : s.length < 4611686018427387904) (hc : s[a]? = some c) (hb : isBlank c = true) :
    ∃ tm', evCode call env7 8 56 (k + 20) b8 tm h = some (.normal, tm', h) ∧ R8 s (a + 1) o l tm' := by
  obtain ⟨h0, h2, h3⟩ := R
  have hil := getElem?_lt hc
  have hw2 : wr .i64 (↑a + 1) = ↑(a + 1) := by have := wr_nat (n := a + 1) (by omega); simpa using this
  have hlt' : ltI ↑a ↑s.length = true := by rw [ltI_nat]; simp [hil]
  generalize hm' : a + 1 = m' at *
  have fin : ∀ tm', R8 s m' o l tm' ↔ (tm'.get 0 = some (.str s) ∧ tm'.get 2 = some (.sl o l) ∧ tm'.get 3 = some (.int .i64 ↑m')) := fun tm' => ⟨fun r => ⟨r.g0, r.g2, r.g3⟩, fun r => ⟨r.1, r.2.1, r.2.2⟩⟩
  simp only [b8, loopOf, Tryd.f8, loops, List.nil_append, List.append_nil, List.cons_append]
  simp only [isBlank] at hb
  cases e1 : intBeq ↑c 32 <;> cases e2 : intBeq ↑c 9 <;> cases e3 : intBeq ↑c 10 <;> simp [e1, e2, e3] at hb <;>
    simp [evCode, evSeq, evOne, evAct, evOp, opKind, evPure, evRead, evNew, evWrite, evSlice, natOf, optVal, readAt, AV.cells, wantedA, putTm, val, allVals, evBin, evInt, evStr, evAppend, denseFrom, sizesAre, onesIn, evPlan, recheck, AV.beq_refl, H.new, H.put, fillF, fillAt, allOne, AV.one, setArgs, evRes, resOf, ofVal, ofVal0, blt_dec, ble_dec, beq_dec, T.get_set_ite, T.get_e, isShift, ikBeq, h0, h2, h3, t7_9, hw2, hlt', hc, e1, e2, e3, fin]
theorem stop8 (call : CallF) (s : List Nat) (a : Nat) (o : Own) (l : List AV) (tm : Tm) (h : H) (k : Nat) (R : R8 s a o l tm) (hs : s.length ≤ a) :
    ∃ tm', evCode call env7 8 56 (k + 20) b8 tm h = some (.exit 0, tm', h) ∧ R8 s a o l tm' := by
  obtain ⟨h0, h2, h3⟩ := R
  have hlt' : ltI ↑a ↑s.length = false := by rw [ltI_nat]; simp [hs]
  have fin : ∀ tm', R8 s a o l tm' ↔ (tm'.get 0 = some (.str s) ∧ tm'.get 2 = some (.sl o l) ∧ tm'.get 3 = some (.int .i64 ↑a)) := fun tm' => ⟨fun r => ⟨r.g0, r.g2, r.g3⟩, fun r => ⟨r.1, r.2.1, r.2.2⟩⟩
  simp only [b8, loopOf, Tryd.f8, loops, List.nil_append, List.append_nil, List.cons_append]
  simp [evCode, evSeq, evOne, evAct, evOp, opKind, evPure, evRead, evNew, evWrite, evSlice, natOf, optVal, readAt, AV.cells, wantedA, putTm, val, allVals, evBin, evInt, evStr, evAppend, denseFrom, sizesAre, onesIn, evPlan, recheck, AV.beq_refl, H.new, H.put, fillF, fillAt, allOne, AV.one, setArgs, evRes, resOf, ofVal, ofVal0, blt_dec, ble_dec, beq_dec, T.get_set_ite, T.get_e, isShift, ikBeq, h0, h2, h3, t7_9, hlt', fin]
theorem err8 (K : Nat) (s : List Nat) (a : Nat) (o : Own) (l : List AV) (tm : Tm) (h : H) (k : Nat) (c : Nat) (R : R8 s a o l tm) (hl : s.length < 140737488355328) (hc : s[a]? = some c) (hb : isBlank c = false)
    (x1 : Int) (x2 : List Nat) (x3 x4 n : Int) (ht : tokRes s a = .tup [.agg [.int .i64 x1, .str x2, .int .i64 x3, .int .i64 x4], .int .i64 n, .bool false]) :
    ∃ tm' h', evCode (evFn env7 (K + 1)) env7 8 56 (k + 20) b8 tm h = some (.ret, tm', h') ∧ tm'.get 2 = some (.sl .full []) ∧ tm'.get 3 = some (.int .i64 ↑a) ∧ tm'.get 4 = some (.int .i64 2) := by
  obtain ⟨h0, h2, h3⟩ := R
  have hil := getElem?_lt hc
  have hlt' : ltI ↑a ↑s.length = true := by rw [ltI_nat]; simp [hil]
  have ct := fun h => pSA_call e7_13 K h s a hl hil
  rw [ht] at ct
  simp only [b8, loopOf, Tryd.f8, loops, List.nil_append, List.append_nil, List.cons_append]
  simp only [isBlank] at hb
  cases e1 : intBeq ↑c 32 <;> cases e2 : intBeq ↑c 9 <;> cases e3 : intBeq ↑c 10 <;> simp [e1, e2, e3] at hb
  simp [evCode, evSeq, evOne, evAct, evOp, opKind, evPure, evRead, evNew, evWrite, evSlice, natOf, optVal, readAt, AV.cells, wantedA, putTm, val, allVals, evBin, evInt, evStr, evAppend, denseFrom, sizesAre, onesIn, evPlan, recheck, AV.beq_refl, H.new, H.put, fillF, fillAt, allOne, AV.one, setArgs, evRes, resOf, ofVal, ofVal0, blt_dec, ble_dec, beq_dec, T.get_set_ite, T.get_e, isShift, ikBeq, h0, h2, h3, t7_9, t7_33, hlt', hc, e1, e2, e3, ct]
/-- The row of tokens, as it lies. -/
def Row (h : H) (o : Own) (l : List AV) : Prop := (o = .full ∧ l = []) ∨ ∃ id, o = .ch id ∧ h.t.get id = some (.chain l.length 33 4) ∧ id < h.nx
theorem tok8 (K : Nat) (s : List Nat) (a : Nat) (o : Own) (l : List AV) (tm : Tm) (h : H) (k : Nat) (c : Nat) (R : R8 s a o l tm) (hl : s.length < 140737488355328) (hc : s[a]? = some c) (hb : isBlank c = false)
    (x1 : Int) (x2 : List Nat) (x3 x4 : Int) (n : Nat) (ht : tokRes s a = .tup [.agg [.int .i64 x1, .str x2, .int .i64 x3, .int .i64 x4], .int .i64 ↑n, .bool true]) (han : a + n ≤ s.length) (hr : Row h o l) (hll : l.length ≤ 1000000) (hs : sizesAre 4 l = true) :
    ∃ tm' h' o', evCode (evFn env7 (K + 1)) env7 8 56 (k + 20) b8 tm h = some (.normal, tm', h') ∧ R8 s (a + n) o' (l ++ [.agg [.int .i64 x1, .str x2, .int .i64 x3, .int .i64 x4]]) tm' ∧ Row h' o' (l ++ [.agg [.int .i64 x1, .str x2, .int .i64 x3, .int .i64 x4]]) := by
  obtain ⟨h0, h2, h3⟩ := R
  have hil := getElem?_lt hc
  have hlt' : ltI ↑a ↑s.length = true := by rw [ltI_nat]; simp [hil]
  have hw : wr .i64 (↑a + ↑n) = ↑(a + n) := by have := wr_nat (n := a + n) (by omega); simpa using this
  have ct := fun h => pSA_call e7_13 K h s a hl hil
  rw [ht] at ct
  have hby : (l.length + 1) * 40 ≤ 140737488355328 := by omega
  generalize hm : a + n = m at *
  simp only [isBlank] at hb
  rcases hr with ⟨rfl, rfl⟩ | ⟨id, rfl, hg, hid⟩
  · simp only [b8, loopOf, Tryd.f8, loops, List.nil_append, List.append_nil, List.cons_append]
    cases e1 : intBeq ↑c 32 <;> cases e2 : intBeq ↑c 9 <;> cases e3 : intBeq ↑c 10 <;> simp [e1, e2, e3] at hb
    simp [evCode, evSeq, evOne, evAct, evOp, opKind, evPure, evRead, evNew, evWrite, evSlice, natOf, optVal, readAt, AV.cells, wantedA, putTm, val, allVals, evBin, evInt, evStr, evAppend, denseFrom, sizesAre, onesIn, evPlan, recheck, AV.beq_refl, H.new, H.put, fillF, fillAt, allOne, AV.one, setArgs, evRes, resOf, ofVal, ofVal0, blt_dec, ble_dec, beq_dec, T.get_set_ite, T.get_e, isShift, ikBeq, h0, h2, h3, t7_9, t7_22, t7_33, hlt', hc, e1, e2, e3, ct, hw]
    refine ⟨_, _, ⟨rfl, rfl⟩, .ch (h.nx + 1), ⟨?_, ?_, ?_⟩, .inr ⟨h.nx + 1, rfl, ?_, ?_⟩⟩ <;> simp [T.get_set_ite, h0, h3]
  · simp only [b8, loopOf, Tryd.f8, loops, List.nil_append, List.append_nil, List.cons_append]
    have hne : id ≠ h.nx := by omega
    cases e1 : intBeq ↑c 32 <;> cases e2 : intBeq ↑c 9 <;> cases e3 : intBeq ↑c 10 <;> simp [e1, e2, e3] at hb
    simp [evCode, evSeq, evOne, evAct, evOp, opKind, evPure, evRead, evNew, evWrite, evSlice, natOf, optVal, readAt, AV.cells, wantedA, putTm, val, allVals, evBin, evInt, evStr, evAppend, denseFrom, sizesAre, onesIn, evPlan, recheck, AV.beq_refl, H.new, H.put, fillF, fillAt, allOne, AV.one, setArgs, evRes, resOf, ofVal, ofVal0, blt_dec, ble_dec, beq_dec, T.get_set_ite, T.get_e, isShift, ikBeq, h0, h2, h3, t7_9, t7_22, t7_33, hlt', hc, e1, e2, e3, ct, hw, hg, hne, hs, hby]
    refine ⟨_, _, ⟨rfl, rfl⟩, .ch id, ⟨?_, ?_, ?_⟩, .inr ⟨id, rfl, ?_, ?_⟩⟩ <;> simp [T.get_set_ite, h0, h3] <;> omega
end Go.Proofs.YtiifjjcoepgobaaDoor.Env
