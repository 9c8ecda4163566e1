/- The token at a place: the program's. -/
import Derived.Test.YtogjplcnmibnlaaGreatDoorCTLNum
import Derived.Test.YtogjplcnmibnlaaGreatDoorCFacts
set_option autoImplicit false
set_option maxRecDepth 100000
set_option linter.unusedSimpArgs false
set_option linter.unusedVariables false
set_option linter.unusedSectionVars false
namespace Go.Proofs.YtogjplcnmibnlaaGreatDoor.Lx
open Go.Ev Go.Proofs.YtogjplcnmibnlaaGreatDoor.Env

def nameRes (s : List Nat) (a : Nat) : AV :=
  .tup [tokA (nameKind ((s.drop a).take (cnt pMore (s.drop a)))) ((s.drop a).take (cnt pMore (s.drop a))) 0 ↑a, .int .i64 ↑(cnt pMore (s.drop a)), .bool (!ltI 12 ↑(cnt pMore (s.drop a)))]
def textRes (s : List Nat) (a : Nat) : AV :=
  .tup [tokA 3 ((s.drop (a + 1)).take (cnt pPlain (s.drop (a + 1)))) 0 ↑a, .int .i64 ↑(cnt pPlain (s.drop (a + 1)) + 2), .bool (okText s (a + 1 + cnt pPlain (s.drop (a + 1))) (cnt pPlain (s.drop (a + 1))))]
/-- A function of a text and a place in it. -/
def pSA (r : List Nat → Nat → AV) : List AV → Option AV
  | [.str s, .int .i64 (.ofNat a)] => bif Nat.blt s.length 140737488355328 && Nat.blt a s.length then some (r s a) else none
  | _ => none
theorem pSA_ok {E : Env} (hE : EnvOk Tryz.prog E) {f : Nat} {fn : Func} {r : List Nat → Nat → AV} (hfn : Tryz.prog.funcs[f]? = some fn) (hnm : (fn.name == "runtime.NumGoroutine") = false) (hb : fn.body.isNone = false)
    (hr : ∀ (s : List Nat) (a : Nat), s.length < 140737488355328 → a < s.length → ∃ k h1, evFn E k f [.str s, .int .i64 ↑a] ⟨.e, 0⟩ = some (r s a, h1)) (hp : ∀ s a, (r s a).pure = true ∧ (r s a).forget = r s a) : PrimOk Tryz.prog f (primPure (pSA r)) := by
  refine primPure_ok hE hfn hnm hb fun args v hv => ?_
  unfold pSA at hv
  split at hv
  · rename_i s a
    cases hc : (Nat.blt s.length 140737488355328 && Nat.blt a s.length) with
    | false => rw [hc] at hv; simp at hv
    | true =>
      rw [hc] at hv
      simp only [cond_true, Option.some.injEq] at hv
      subst hv
      simp only [Bool.and_eq_true] at hc
      obtain ⟨k, h1, he⟩ := hr s a (blt_nat.1 hc.1) (blt_nat.1 hc.2)
      exact ⟨k, _, h1, he, (hp s a).1, (hp s a).2⟩
  · simp at hv
theorem p18_ok : PrimOk Tryz.prog 134 (primPure (pSA nameRes)) := pSA_ok env5_ok Tryz.func134 (by kernel_rfl) (by kernel_rfl) (fun s a h1 h2 => ⟨40, name_run s a (by omega) (by omega) 0⟩) (fun s a => ⟨rfl, rfl⟩)
theorem p21_ok : PrimOk Tryz.prog 137 (primPure (pSA textRes)) := pSA_ok env5_ok Tryz.func137 (by kernel_rfl) (by kernel_rfl) (fun s a h1 h2 => ⟨40, text_run s a (by omega) h2 0⟩) (fun s a => ⟨rfl, rfl⟩)
theorem p20_ok : PrimOk Tryz.prog 136 (primPure (pSA numRes)) := pSA_ok env5_ok Tryz.func136 (by kernel_rfl) (by kernel_rfl) (fun s a h1 h2 => number_run s a h1 h2) (fun s a => by unfold numRes; cases numBad s a (cnt pDigit (s.drop a)) <;> exact ⟨rfl, rfl⟩)
theorem p22_ok : PrimOk Tryz.prog 138 (primPure (pSA signRes)) := pSA_ok env5_ok Tryz.func138 (by kernel_rfl) (by kernel_rfl) (fun s a h1 h2 => ⟨100, sign_run s a (by omega)⟩) (fun s a => by unfold signRes; cases firstF (s.drop a) signsL <;> exact ⟨rfl, rfl⟩)
noncomputable def env6 : Env := addPrim (addPrim (addPrim (addPrim env5 134 (primPure (pSA nameRes))) 137 (primPure (pSA textRes))) 136 (primPure (pSA numRes))) 138 (primPure (pSA signRes))
theorem env6_ok : EnvOk Tryz.prog env6 := addPrim_ok (addPrim_ok (addPrim_ok (addPrim_ok env5_ok p18_ok) p21_ok) p20_ok) p22_ok
theorem e6_13 : env6.prim 130 = none := by kernel_rfl
theorem f6_13 : env6.fns 130 = some Tryz.f130 := by kernel_rfl
theorem e6_17 : env6.prim 133 = some (primPure (pI pLetter)) := by kernel_rfl
theorem e6_19 : env6.prim 135 = some (primPure (pI pDigit)) := by kernel_rfl
theorem e6_18 : env6.prim 134 = some (primPure (pSA nameRes)) := by kernel_rfl
theorem e6_20 : env6.prim 136 = some (primPure (pSA numRes)) := by kernel_rfl
theorem e6_21 : env6.prim 137 = some (primPure (pSA textRes)) := by kernel_rfl
theorem e6_22 : env6.prim 138 = some (primPure (pSA signRes)) := by kernel_rfl
theorem t6_9 : env6.ty 9 = some { kind := TK.str, sz := 1, byt := 16, zero := some (AV.str []), ag := false, eqf := none } := by kernel_rfl
theorem t6_33 : env6.ty 71 = some { kind := TK.st [(0, 1, false), (1, 1, false), (2, 1, false), (3, 1, false)], sz := 4, byt := 40, zero := some (AV.agg [AV.int IntKind.i64 0, AV.str [], AV.int IntKind.i64 0, AV.int IntKind.i64 0]), ag := true, eqf := some [(0, 0), (1, 1), (2, 0), (3, 0)] } := by kernel_rfl
theorem pSA_call {E : Env} {f : Nat} {r : List Nat → Nat → AV} (he : E.prim f = some (primPure (pSA r))) (k : Nat) (h : H) (s : List Nat) (a : Nat) (hl : s.length < 140737488355328) (ha : a < s.length) : evFn E (k + 1) f [.str s, .int .i64 ↑a] h = some (r s a, h) := by
  rw [evFn_prim he]
  simp [primPure, AV.pures, AV.pure, AV.forgets, AV.forget, pSA, blt_dec, hl, ha]
theorem pI_call {E : Env} {f : Nat} {q : Int → Bool} (he : E.prim f = some (primPure (pI q))) (k : Nat) (h : H) (c : Int) : evFn E (k + 1) f [.int .u8 c] h = some (.bool (q c), h) := by
  rw [evFn_prim he]
  simp [primPure, AV.pures, AV.pure, AV.forgets, AV.forget, pI]
def isTok (v : AV) : Prop := ∃ (x1 : Int) (x2 : List Nat) (x3 x4 n : Int) (b : Bool), v = .tup [.agg [.int .i64 x1, .str x2, .int .i64 x3, .int .i64 x4], .int .i64 n, .bool b]
theorem nameRes_tok (s : List Nat) (a : Nat) : isTok (nameRes s a) := ⟨_, _, _, _, _, _, rfl⟩
theorem textRes_tok (s : List Nat) (a : Nat) : isTok (textRes s a) := ⟨_, _, _, _, _, _, rfl⟩
theorem numRes_tok (s : List Nat) (a : Nat) : isTok (numRes s a) := by unfold numRes; cases numBad s a (cnt pDigit (s.drop a)) <;> exact ⟨_, _, _, _, _, _, rfl⟩
theorem signRes_tok (s : List Nat) (a : Nat) : isTok (signRes s a) := by unfold signRes; cases firstF (s.drop a) signsL <;> exact ⟨_, _, _, _, _, _, rfl⟩
def tokRes (s : List Nat) (a : Nat) : AV := match s[a]? with
  | none => .tup []
  | some c => bif pLetter ↑c then nameRes s a else bif pDigit ↑c then numRes s a else bif intBeq ↑c 34 then textRes s a else signRes s a
theorem token_run (s : List Nat) (a : Nat) (hl : s.length < 140737488355328) (ha : a < s.length) (k : Nat) : ∃ h1, evFn env6 (k + 40) 130 [.str s, .int .i64 ↑a] ⟨.e, 0⟩ = some (tokRes s a, h1) := by
  obtain ⟨c, hc⟩ : ∃ c, s[a]? = some c := ⟨_, List.getElem?_eq_getElem ha⟩
  have cn := fun k h => pSA_call e6_18 k h s a hl ha
  have cu := fun k h => pSA_call e6_20 k h s a hl ha
  have ct := fun k h => pSA_call e6_21 k h s a hl ha
  have cs := fun k h => pSA_call e6_22 k h s a hl ha
  have cl := fun k h => pI_call e6_17 k h ↑c
  have cd := fun k h => pI_call e6_19 k h ↑c
  unfold tokRes
  rw [hc]
  simp only
  rw [evFn]
  simp only [e6_13, f6_13, Tryz.f130]
  cases h1 : pLetter ↑c with
  | true =>
    obtain ⟨x1, x2, x3, x4, n, b, hx⟩ := nameRes_tok s a
    rw [hx] at cn ⊢
    simp [evCode, EVT0, evSeq, evOne, evAct, evOp, opKind, evPure, evRead, evNew, evWrite, evSlice, natOf, optVal, readAt, AV.cells, wantedA, putTm, val, allVals, evBin, evInt, evStr, evAppend, evMin, nilCmp, denseFrom, sizesAre, onesIn, evPlan, recheck, H.new, H.put, fillF, fillAt, allOne, AV.one, setArgs, evRes, resOf, ofVal, ofVal0, isShift, ikBeq, MTC, t6_9, t6_33, hc, cl, cn, h1]
  | false =>
    cases h2 : pDigit ↑c with
    | true =>
      obtain ⟨x1, x2, x3, x4, n, b, hx⟩ := numRes_tok s a
      rw [hx] at cu ⊢
      simp [evCode, EVT0, evSeq, evOne, evAct, evOp, opKind, evPure, evRead, evNew, evWrite, evSlice, natOf, optVal, readAt, AV.cells, wantedA, putTm, val, allVals, evBin, evInt, evStr, evAppend, evMin, nilCmp, denseFrom, sizesAre, onesIn, evPlan, recheck, H.new, H.put, fillF, fillAt, allOne, AV.one, setArgs, evRes, resOf, ofVal, ofVal0, isShift, ikBeq, MTC, t6_9, t6_33, hc, cl, cd, cu, h1, h2]
    | false =>
      cases h3 : intBeq ↑c 34 with
      | true =>
        obtain ⟨x1, x2, x3, x4, n, b, hx⟩ := textRes_tok s a
        rw [hx] at ct ⊢
        simp [evCode, EVT0, evSeq, evOne, evAct, evOp, opKind, evPure, evRead, evNew, evWrite, evSlice, natOf, optVal, readAt, AV.cells, wantedA, putTm, val, allVals, evBin, evInt, evStr, evAppend, evMin, nilCmp, denseFrom, sizesAre, onesIn, evPlan, recheck, H.new, H.put, fillF, fillAt, allOne, AV.one, setArgs, evRes, resOf, ofVal, ofVal0, isShift, ikBeq, MTC, t6_9, t6_33, hc, cl, cd, ct, h1, h2, h3]
      | false =>
        obtain ⟨x1, x2, x3, x4, n, b, hx⟩ := signRes_tok s a
        rw [hx] at cs ⊢
        simp [evCode, EVT0, evSeq, evOne, evAct, evOp, opKind, evPure, evRead, evNew, evWrite, evSlice, natOf, optVal, readAt, AV.cells, wantedA, putTm, val, allVals, evBin, evInt, evStr, evAppend, evMin, nilCmp, denseFrom, sizesAre, onesIn, evPlan, recheck, H.new, H.put, fillF, fillAt, allOne, AV.one, setArgs, evRes, resOf, ofVal, ofVal0, isShift, ikBeq, MTC, t6_9, t6_33, hc, cl, cd, cs, h1, h2, h3]
end Go.Proofs.YtogjplcnmibnlaaGreatDoor.Lx
/- All tokens of a text: the program's. -/
namespace Go.Proofs.YtogjplcnmibnlaaGreatDoor.Lx
open Go.Ev Go.Proofs.YtogjplcnmibnlaaGreatDoor.Env

noncomputable def env7 : Env := addPrim env6 130 (primPure (pSA tokRes))
theorem isTok_pure {v : AV} (h : isTok v) : v.pure = true ∧ v.forget = v := by
  obtain ⟨x1, x2, x3, x4, n, b, rfl⟩ := h
  exact ⟨rfl, rfl⟩
theorem tokRes_pure (s : List Nat) (a : Nat) : (tokRes s a).pure = true ∧ (tokRes s a).forget = tokRes s a := by
  unfold tokRes
  cases s[a]? with
  | none => exact ⟨rfl, rfl⟩
  | some c =>
    simp only
    cases pLetter ↑c with
    | true => exact isTok_pure (nameRes_tok s a)
    | false =>
      cases pDigit ↑c with
      | true => exact isTok_pure (numRes_tok s a)
      | false =>
        cases intBeq ↑c 34 with
        | true => exact isTok_pure (textRes_tok s a)
        | false => exact isTok_pure (signRes_tok s a)
theorem p13_ok : PrimOk Tryz.prog 130 (primPure (pSA tokRes)) := pSA_ok env6_ok Tryz.func130 (by kernel_rfl) (by kernel_rfl) (fun s a h1 h2 => ⟨40, token_run s a h1 h2 0⟩) tokRes_pure
theorem env7_ok : EnvOk Tryz.prog env7 := addPrim_ok env6_ok p13_ok
theorem e7_8 : env7.prim 120 = none := by kernel_rfl
theorem f7_8 : env7.fns 120 = some Tryz.f120 := by kernel_rfl
theorem e7_13 : env7.prim 130 = some (primPure (pSA tokRes)) := by kernel_rfl
theorem t7_9 : env7.ty 9 = some { kind := TK.str, sz := 1, byt := 16, zero := some (AV.str []), ag := false, eqf := none } := by kernel_rfl
theorem t7_22 : env7.ty 63 = some { kind := TK.sl 71, sz := 1, byt := 24, zero := some (AV.sl Own.full []), ag := false, eqf := none } := by kernel_rfl
theorem t7_33 : env7.ty 71 = some { kind := TK.st [(0, 1, false), (1, 1, false), (2, 1, false), (3, 1, false)], sz := 4, byt := 40, zero := some (AV.agg [AV.int IntKind.i64 0, AV.str [], AV.int IntKind.i64 0, AV.int IntKind.i64 0]), ag := true, eqf := some [(0, 0), (1, 1), (2, 0), (3, 0)] } := by kernel_rfl
noncomputable def b8 : Code := loopOf Tryz.f120 0
def isBlank (c : Nat) : Bool := intBeq ↑c 32 || (intBeq ↑c 9 || intBeq ↑c 10)
structure R8 (s : List Nat) (a : Nat) (o : Own) (l : List AV) (tm : Tm) : Prop where
  g0 : tm.get 0 = some (.str s)
  g2 : tm.get 2 = some (.sl o l)
  g3 : tm.get 3 = some (.int .i64 ↑a)
theorem blank8 (call : CallF) (s : List Nat) (a : Nat) (o : Own) (l : List AV) (tm : Tm) (h : H) (k : Nat) (c : Nat) (R : R8 s a o l tm) (hl : s.length < 4611686018427387904) (hc : s[a]? = some c) (hb : isBlank c = true) :
    ∃ tm', evCode call env7 120 56 (k + 20) b8 tm h = some (.normal, tm', h) ∧ R8 s (a + 1) o l tm' := by
  obtain ⟨h0, h2, h3⟩ := R
  have hil := getElem?_lt hc
  have hw2 : wr .i64 (↑a + 1) = ↑(a + 1) := by have := wr_nat (n := a + 1) (by omega); simpa using this
  have hlt' : ltI ↑a ↑s.length = true := by rw [ltI_nat]; simp [hil]
  generalize hm' : a + 1 = m' at *
  have fin : ∀ tm', R8 s m' o l tm' ↔ (tm'.get 0 = some (.str s) ∧ tm'.get 2 = some (.sl o l) ∧ tm'.get 3 = some (.int .i64 ↑m')) := fun tm' => ⟨fun r => ⟨r.g0, r.g2, r.g3⟩, fun r => ⟨r.1, r.2.1, r.2.2⟩⟩
  simp only [b8, loopOf, Tryz.f120, loops, List.nil_append, List.append_nil, List.cons_append]
  simp only [isBlank] at hb
  cases e1 : intBeq ↑c 32 <;> cases e2 : intBeq ↑c 9 <;> cases e3 : intBeq ↑c 10 <;> simp [e1, e2, e3] at hb <;>
    simp [evCode, EVT0, evSeq, evOne, evAct, evOp, opKind, evPure, evRead, evNew, evWrite, evSlice, natOf, optVal, readAt, AV.cells, wantedA, putTm, val, allVals, evBin, evInt, evStr, evAppend, evMin, nilCmp, denseFrom, sizesAre, onesIn, evPlan, recheck, H.new, H.put, fillF, fillAt, allOne, AV.one, setArgs, evRes, resOf, ofVal, ofVal0, isShift, ikBeq, MTC, h0, h2, h3, t7_9, hw2, hlt', hc, e1, e2, e3, fin]
theorem stop8 (call : CallF) (s : List Nat) (a : Nat) (o : Own) (l : List AV) (tm : Tm) (h : H) (k : Nat) (R : R8 s a o l tm) (hs : s.length ≤ a) :
    ∃ tm', evCode call env7 120 56 (k + 20) b8 tm h = some (.exit 0, tm', h) ∧ R8 s a o l tm' := by
  obtain ⟨h0, h2, h3⟩ := R
  have hlt' : ltI ↑a ↑s.length = false := by rw [ltI_nat]; simp [hs]
  have fin : ∀ tm', R8 s a o l tm' ↔ (tm'.get 0 = some (.str s) ∧ tm'.get 2 = some (.sl o l) ∧ tm'.get 3 = some (.int .i64 ↑a)) := fun tm' => ⟨fun r => ⟨r.g0, r.g2, r.g3⟩, fun r => ⟨r.1, r.2.1, r.2.2⟩⟩
  simp only [b8, loopOf, Tryz.f120, loops, List.nil_append, List.append_nil, List.cons_append]
  simp [evCode, EVT0, evSeq, evOne, evAct, evOp, opKind, evPure, evRead, evNew, evWrite, evSlice, natOf, optVal, readAt, AV.cells, wantedA, putTm, val, allVals, evBin, evInt, evStr, evAppend, evMin, nilCmp, denseFrom, sizesAre, onesIn, evPlan, recheck, H.new, H.put, fillF, fillAt, allOne, AV.one, setArgs, evRes, resOf, ofVal, ofVal0, isShift, ikBeq, MTC, h0, h2, h3, t7_9, hlt', fin]
theorem err8 (K : Nat) (s : List Nat) (a : Nat) (o : Own) (l : List AV) (tm : Tm) (h : H) (k : Nat) (c : Nat) (R : R8 s a o l tm) (hl : s.length < 140737488355328) (hc : s[a]? = some c) (hb : isBlank c = false)
    (x1 : Int) (x2 : List Nat) (x3 x4 n : Int) (ht : tokRes s a = .tup [.agg [.int .i64 x1, .str x2, .int .i64 x3, .int .i64 x4], .int .i64 n, .bool false]) :
    ∃ tm' h', evCode (evFn env7 (K + 1)) env7 120 56 (k + 20) b8 tm h = some (.ret, tm', h') ∧ tm'.get 2 = some (.sl .full []) ∧ tm'.get 3 = some (.int .i64 ↑a) ∧ tm'.get 4 = some (.int .i64 2) := by
  obtain ⟨h0, h2, h3⟩ := R
  have hil := getElem?_lt hc
  have hlt' : ltI ↑a ↑s.length = true := by rw [ltI_nat]; simp [hil]
  have ct := fun h => pSA_call e7_13 K h s a hl hil
  rw [ht] at ct
  simp only [b8, loopOf, Tryz.f120, loops, List.nil_append, List.append_nil, List.cons_append]
  simp only [isBlank] at hb
  cases e1 : intBeq ↑c 32 <;> cases e2 : intBeq ↑c 9 <;> cases e3 : intBeq ↑c 10 <;> simp [e1, e2, e3] at hb
  simp [evCode, EVT0, evSeq, evOne, evAct, evOp, opKind, evPure, evRead, evNew, evWrite, evSlice, natOf, optVal, readAt, AV.cells, wantedA, putTm, val, allVals, evBin, evInt, evStr, evAppend, evMin, nilCmp, denseFrom, sizesAre, onesIn, evPlan, recheck, H.new, H.put, fillF, fillAt, allOne, AV.one, setArgs, evRes, resOf, ofVal, ofVal0, isShift, ikBeq, MTC, h0, h2, h3, t7_9, t7_33, hlt', hc, e1, e2, e3, ct]
/-- The row of tokens, as it lies. -/
def Row (h : H) (o : Own) (l : List AV) : Prop := (o = .full ∧ l = []) ∨ ∃ id, o = .ch id ∧ h.t.get id = some (.chain l.length 71 4) ∧ id < h.nx
theorem tok8 (K : Nat) (s : List Nat) (a : Nat) (o : Own) (l : List AV) (tm : Tm) (h : H) (k : Nat) (c : Nat) (R : R8 s a o l tm) (hl : s.length < 140737488355328) (hc : s[a]? = some c) (hb : isBlank c = false)
    (x1 : Int) (x2 : List Nat) (x3 x4 : Int) (n : Nat) (ht : tokRes s a = .tup [.agg [.int .i64 x1, .str x2, .int .i64 x3, .int .i64 x4], .int .i64 ↑n, .bool true]) (han : a + n ≤ s.length) (hr : Row h o l) (hll : l.length ≤ 1000000) (hs : sizesAre 4 l = true) :
    ∃ tm' h' o', evCode (evFn env7 (K + 1)) env7 120 56 (k + 20) b8 tm h = some (.normal, tm', h') ∧ R8 s (a + n) o' (l ++ [.agg [.int .i64 x1, .str x2, .int .i64 x3, .int .i64 x4]]) tm' ∧ Row h' o' (l ++ [.agg [.int .i64 x1, .str x2, .int .i64 x3, .int .i64 x4]]) := by
  obtain ⟨h0, h2, h3⟩ := R
  have hil := getElem?_lt hc
  have hlt' : ltI ↑a ↑s.length = true := by rw [ltI_nat]; simp [hil]
  have hw : wr .i64 (↑a + ↑n) = ↑(a + n) := by have := wr_nat (n := a + n) (by omega); simpa using this
  have ct := fun h => pSA_call e7_13 K h s a hl hil
  rw [ht] at ct
  have hby : (l.length + 1) * 40 ≤ 140737488355328 := by omega
  generalize hm : a + n = m at *
  simp only [isBlank] at hb
  rcases hr with ⟨rfl, rfl⟩ | ⟨id, rfl, hg, hid⟩
  · simp only [b8, loopOf, Tryz.f120, loops, List.nil_append, List.append_nil, List.cons_append]
    cases e1 : intBeq ↑c 32 <;> cases e2 : intBeq ↑c 9 <;> cases e3 : intBeq ↑c 10 <;> simp [e1, e2, e3] at hb
    simp [evCode, EVT0, evSeq, evOne, evAct, evOp, opKind, evPure, evRead, evNew, evWrite, evSlice, natOf, optVal, readAt, AV.cells, wantedA, putTm, val, allVals, evBin, evInt, evStr, evAppend, evMin, nilCmp, denseFrom, sizesAre, onesIn, evPlan, recheck, H.new, H.put, fillF, fillAt, allOne, AV.one, setArgs, evRes, resOf, ofVal, ofVal0, isShift, ikBeq, MTC, h0, h2, h3, t7_9, t7_22, t7_33, hlt', hc, e1, e2, e3, ct, hw]
    refine ⟨_, _, ⟨rfl, rfl⟩, .ch (h.nx + 1), ⟨?_, ?_, ?_⟩, .inr ⟨h.nx + 1, rfl, ?_, ?_⟩⟩ <;> simp [T.get_set_ite, h0, h3]
  · simp only [b8, loopOf, Tryz.f120, loops, List.nil_append, List.append_nil, List.cons_append]
    have hne : id ≠ h.nx := by omega
    cases e1 : intBeq ↑c 32 <;> cases e2 : intBeq ↑c 9 <;> cases e3 : intBeq ↑c 10 <;> simp [e1, e2, e3] at hb
    simp [evCode, EVT0, evSeq, evOne, evAct, evOp, opKind, evPure, evRead, evNew, evWrite, evSlice, natOf, optVal, readAt, AV.cells, wantedA, putTm, val, allVals, evBin, evInt, evStr, evAppend, evMin, nilCmp, denseFrom, sizesAre, onesIn, evPlan, recheck, H.new, H.put, fillF, fillAt, allOne, AV.one, setArgs, evRes, resOf, ofVal, ofVal0, isShift, ikBeq, MTC, h0, h2, h3, t7_9, t7_22, t7_33, hlt', hc, e1, e2, e3, ct, hw, hg, hne, hs, hby]
    refine ⟨_, _, ⟨rfl, rfl⟩, .ch id, ⟨?_, ?_, ?_⟩, .inr ⟨id, rfl, ?_, ?_⟩⟩ <;> simp [T.get_set_ite, h0, h3] <;> omega
end Go.Proofs.YtogjplcnmibnlaaGreatDoor.Lx
/- All tokens of a text, told as a function; the program's loop comes to it. -/
namespace Go.Proofs.YtogjplcnmibnlaaGreatDoor.Lx
open Go.Ev Go.Proofs.YtogjplcnmibnlaaGreatDoor.Env

theorem cnt_pos {q : Int → Bool} {s : List Nat} {a c : Nat} (hc : s[a]? = some c) (hq : q ↑c = true) : 0 < cnt q (s.drop a) := by
  have h : s.drop a = c :: s.drop (a + 1) := by
    have hlt := getElem?_lt hc
    rw [List.drop_eq_getElem_cons hlt]
    rw [List.getElem?_eq_getElem hlt] at hc
    simp only [Option.some.injEq] at hc
    rw [hc]
  rw [h]
  simp [cnt, hq]
theorem firstF_len {d : List Nat} : ∀ {ws : List (List Nat)} {w : List Nat}, firstF d ws = some w → w ∈ ws ∧ w.length ≤ d.length
  | [], w, h => by simp [firstF] at h
  | x :: l, w, h => by
    simp only [firstF] at h
    cases hb : preF d x with
    | true =>
      rw [hb] at h
      simp only [cond_true, Option.some.injEq] at h
      subst h
      refine ⟨List.mem_cons_self .., ?_⟩
      simp only [preF, Bool.and_eq_true, Bool.not_eq_true'] at hb
      have := hb.1
      rw [ltI_nat] at this
      simpa using this
    | false =>
      rw [hb] at h
      obtain ⟨h1, h2⟩ := firstF_len h
      exact ⟨List.mem_cons_of_mem _ h1, h2⟩
/-- A token has a byte, and lies in the text. -/
theorem tok_len {s : List Nat} {a c : Nat} (hc : s[a]? = some c) {t : AV} {n : Int} (h : tokRes s a = .tup [t, .int .i64 n, .bool true]) : ∃ m : Nat, n = ↑m ∧ 0 < m ∧ a + m ≤ s.length := by
  have hlt := getElem?_lt hc
  unfold tokRes at h
  rw [hc] at h
  simp only at h
  cases h1 : pLetter ↑c with
  | true =>
    rw [h1] at h
    simp only [cond_true, nameRes, AV.tup.injEq, List.cons.injEq, AV.int.injEq, true_and] at h
    have hp := cnt_pos (q := pMore) hc (by simp [pMore, h1])
    have hl := cnt_le pMore (s.drop a)
    rw [List.length_drop] at hl
    exact ⟨_, h.2.1.symm, hp, by omega⟩
  | false =>
    rw [h1] at h
    cases h2 : pDigit ↑c with
    | true =>
      rw [h2] at h
      simp only [cond_true, cond_false, numRes] at h
      have hp := cnt_pos (q := pDigit) hc h2
      have hl := cnt_le pDigit (s.drop a)
      rw [List.length_drop] at hl
      cases hb : numBad s a (cnt pDigit (s.drop a)) with
      | true => rw [hb] at h; simp at h
      | false =>
        rw [hb] at h
        simp only [cond_false, AV.tup.injEq, List.cons.injEq, AV.int.injEq, true_and] at h
        exact ⟨_, h.2.1.symm, hp, by omega⟩
    | false =>
      rw [h2] at h
      cases h3 : intBeq ↑c 34 with
      | true =>
        rw [h3] at h
        simp only [cond_true, cond_false, textRes, AV.tup.injEq, List.cons.injEq, AV.int.injEq, true_and, AV.bool.injEq, and_true] at h
        have hl := cnt_le pPlain (s.drop (a + 1))
        rw [List.length_drop] at hl
        obtain ⟨_, h5, h6⟩ := h
        unfold okText at h6
        cases he : s[a + 1 + cnt pPlain (s.drop (a + 1))]? with
        | none => rw [he] at h6; simp at h6
        | some e =>
          have := getElem?_lt he
          exact ⟨cnt pPlain (s.drop (a + 1)) + 2, by rw [← h5], by omega, by omega⟩
      | false =>
        rw [h3] at h
        simp only [cond_false, signRes] at h
        cases hf : firstF (s.drop a) signsL with
        | none => rw [hf] at h; simp at h
        | some w =>
          rw [hf] at h
          simp only [AV.tup.injEq, List.cons.injEq, AV.int.injEq, true_and] at h
          obtain ⟨g1, g2⟩ := firstF_len hf
          have hw : ∀ w ∈ signsL, 0 < w.length := by decide
          have := hw w g1
          rw [List.length_drop] at g2
          exact ⟨_, h.2.1.symm, this, by omega⟩
end Go.Proofs.YtogjplcnmibnlaaGreatDoor.Lx
/- The reference's look-up of a word; what may stand in a string. -/
namespace Go.Proofs.YtogjplcnmibnlaaGreatDoor.Lx
open Go.Ev Go.Proofs.YtogjplcnmibnlaaGreatDoor.Env

theorem e7ty : env7.ty = env.ty := rfl
theorem e7pl : env7.plan = env.plan := rfl
theorem rwordsL (h : H) : evL env7 128 [] h = some (.sl .full (wordsL.map .str), h) := by
  rw [evL_prim env7 (f := 128) (p := primPure (pK (.sl .full (wordsL.map .str)))) (by kernel_rfl)]; rfl
noncomputable def b36_0 : Code := loopOf Tryz.f118 0
theorem body36 : Tryz.f118.body = some (.seq (codeAt Tryz.f118 [0]) (.seq (codeAt Tryz.f118 [1, 0]) (.seq (.seq (codeAt Tryz.f118 [1, 1, 0, 0]) (.block 0 (.loop b36_0))) (codeAt Tryz.f118 [1, 1, 1])))) := rfl
theorem loop36 {v : List Nat} {ws : List (List Nat)} (hl : ws.length < 4611686018427387904) : ∀ (l : List (List Nat)) (i : Nat) {tm : Tm} {h : H} {x : Option (Ex × Tm × H)}, cdL env7 118 18 (.loop b36_0) tm h = x → l = ws.drop i → i ≤ ws.length →
    tm.get 0 = some (.str v) → tm.get 3 = some (.sl .full (ws.map .str)) → tm.get 4 = some (.int .i64 ↑i) → ∃ tm', x = some (bif l.any (natsBeq · v) then .ret else .exit 0, tm', h) ∧ (l.any (natsBeq · v) = true → tm'.get 2 = some (.bool true))
  | [], i, tm, h, x, hx, hd, hi, h0, h3, h4 => by
    have hlen : ws.length = i := by have := congrArg List.length hd; simp at this; omega
    obtain ⟨R, hR, hx⟩ := loop_step hx
    simp [b36_0, loopOf, Tryz.f118, loops, EVT, endL, evSeq, evOne, evAct, evOp, opKind, evPure, evRead, evNew, evWrite, evSlice, natOf, optVal, readAt, AV.cells, wantedA, putTm, val, allVals, evBin, evInt, evStr, evAppend, evMin, nilCmp, denseFrom, sizesAre, onesIn, evPlan, recheck, H.new, H.put, fillF, fillAt, allOne, AV.one, setArgs, evRes, resOf, ofVal, ofVal0, isShift, ikBeq, TYC, lp, e7ty, e7pl, h0, h3, h4, ltI_nat, hlen] at hx
    exact ⟨_, by rw [← hx]; rfl, by simp⟩
  | w :: l, i, tm, h, x, hx, hd, hi, h0, h3, h4 => by
    have hlt : i < ws.length := by have := congrArg List.length hd; simp at this; omega
    have hw : ws[i]? = some w := by have : (ws.drop i)[0]? = some w := by rw [← hd]; rfl
                                    simpa using this
    have hd' : l = ws.drop (i + 1) := by have := congrArg List.tail hd; simpa [List.tail_drop] using this
    obtain ⟨R, hR, hx⟩ := loop_step hx
    cases hb : natsBeq w v with
    | true =>
      simp [b36_0, loopOf, Tryz.f118, loops, EVT, endL, evSeq, evOne, evAct, evOp, opKind, evPure, evRead, evNew, evWrite, evSlice, natOf, optVal, readAt, AV.cells, wantedA, putTm, val, allVals, evBin, evInt, evStr, evAppend, evMin, nilCmp, denseFrom, sizesAre, onesIn, evPlan, recheck, H.new, H.put, fillF, fillAt, allOne, AV.one, setArgs, evRes, resOf, ofVal, ofVal0, isShift, ikBeq, TYC, lp, e7ty, e7pl, h0, h3, h4, ltI_t hlt, hw, hb] at hx
      exact ⟨_, by rw [← hx]; simp [hb]; rfl, by simp [T.get_set_ite]⟩
    | false =>
      simp [b36_0, loopOf, Tryz.f118, loops, EVT, endL, evSeq, evOne, evAct, evOp, opKind, evPure, evRead, evNew, evWrite, evSlice, natOf, optVal, readAt, AV.cells, wantedA, putTm, val, allVals, evBin, evInt, evStr, evAppend, evMin, nilCmp, denseFrom, sizesAre, onesIn, evPlan, recheck, H.new, H.put, fillF, fillAt, allOne, AV.one, setArgs, evRes, resOf, ofVal, ofVal0, isShift, ikBeq, TYC, lp, e7ty, e7pl, h0, h3, h4, ltI_t hlt, hw, hb, wr_succ (i := i) (by omega)] at hx
      rw [hR] at hx
      simp only [List.any_cons, hb, Bool.false_or]
      exact loop36 hl l (i + 1) hx hd' hlt (by simp [T.get_set_ite, h0]) (by simp [T.get_set_ite, h3]) (by simp [T.get_set_ite])
theorem word_run (v : List Nat) : ∃ h1, evL env7 118 [.str v] ⟨.e, 0⟩ = some (.bool (wordsL.any (natsBeq · v)), h1) := by
  rw [evL_fn env7 (by kernel_rfl) (by kernel_rfl) body36 _ _ rfl]
  simp only [codeAt, sub, Tryz.f118]
  simp [EVT, endL, evSeq, evOne, evAct, evOp, opKind, evPure, evRead, evNew, evWrite, evSlice, natOf, optVal, readAt, AV.cells, wantedA, putTm, val, allVals, evBin, evInt, evStr, evAppend, evMin, nilCmp, denseFrom, sizesAre, onesIn, evPlan, recheck, H.new, H.put, fillF, fillAt, allOne, AV.one, setArgs, evRes, resOf, ofVal, ofVal0, isShift, ikBeq, TYC, e7ty, e7pl, rwordsL]
  generalize hx : cdL env7 118 18 (.loop b36_0) _ _ = x
  obtain ⟨tm', rfl, g⟩ := loop36 (v := v) (ws := wordsL) (by decide) wordsL 0 hx rfl (by decide) (by simp [T.get_set_ite]) (by simp [T.get_set_ite]) (by simp [T.get_set_ite])
  cases hb : wordsL.any (natsBeq · v) with
  | true => simp [EVT, endL, evSeq, evOne, evAct, evOp, opKind, evPure, evRead, evNew, evWrite, evSlice, natOf, optVal, readAt, AV.cells, wantedA, putTm, val, allVals, evBin, evInt, evStr, evAppend, evMin, nilCmp, denseFrom, sizesAre, onesIn, evPlan, recheck, H.new, H.put, fillF, fillAt, allOne, AV.one, setArgs, evRes, resOf, ofVal, ofVal0, isShift, ikBeq, TYC, e7ty, e7pl, g hb]
  | false => simp [EVT, endL, evSeq, evOne, evAct, evOp, opKind, evPure, evRead, evNew, evWrite, evSlice, natOf, optVal, readAt, AV.cells, wantedA, putTm, val, allVals, evBin, evInt, evStr, evAppend, evMin, nilCmp, denseFrom, sizesAre, onesIn, evPlan, recheck, H.new, H.put, fillF, fillAt, allOne, AV.one, setArgs, evRes, resOf, ofVal, ofVal0, isShift, ikBeq, TYC, e7ty, e7pl]
end Go.Proofs.YtogjplcnmibnlaaGreatDoor.Lx
/- The reference's tokens, one kind after the other. -/
namespace Go.Proofs.YtogjplcnmibnlaaGreatDoor.Lx
open Go.Ev Go.Proofs.YtogjplcnmibnlaaGreatDoor.Env

noncomputable def b37_0 : Code := loopOf Tryz.f98 0
theorem body37 : Tryz.f98.body = some (.seq (codeAt Tryz.f98 [0]) (.seq (.seq (codeAt Tryz.f98 [1, 0, 0]) (.block 0 (.loop b37_0))) (codeAt Tryz.f98 [1, 1]))) := rfl
def allP (l : List Nat) : Bool := l.all fun c => pPlain ↑c
theorem loop37 {s : List Nat} (hl : s.length < 4611686018427387904) : ∀ (l : List Nat) (i : Nat) {tm : Tm} {h : H} {x : Option (Ex × Tm × H)}, cdL env7 98 29 (.loop b37_0) tm h = x → l = s.drop i → i ≤ s.length →
    tm.get 0 = some (.str s) → tm.get 3 = some (.int .i64 ↑i) → ∃ tm', x = some (bif allP l then .exit 0 else .ret, tm', h) ∧ (allP l = true → tm'.get 0 = some (.str s)) ∧ (allP l = false → tm'.get 2 = some (.bool false))
  | [], i, tm, h, x, hx, hd, hi, h0, h3 => by
    have hlen := dnil hd hi
    obtain ⟨R, hR, hx⟩ := loop_step hx
    simp [b37_0, loopOf, Tryz.f98, loops, EVT, endL, evSeq, evOne, evAct, evOp, opKind, evPure, evRead, evNew, evWrite, evSlice, natOf, optVal, readAt, AV.cells, wantedA, putTm, val, allVals, evBin, evInt, evStr, evAppend, evMin, nilCmp, denseFrom, sizesAre, onesIn, evPlan, recheck, H.new, H.put, fillF, fillAt, allOne, AV.one, setArgs, evRes, resOf, ofVal, ofVal0, isShift, ikBeq, TYC, lp, e7ty, e7pl, h0, h3, hlen, ltI_f] at hx
    exact ⟨_, by rw [← hx]; rfl, by simp [T.get_set_ite, h0], by simp [allP]⟩
  | c :: l, i, tm, h, x, hx, hd, hi, h0, h3 => by
    obtain ⟨hlt, hc, hd'⟩ := dcons hd
    obtain ⟨R, hR, hx⟩ := loop_step hx
    have hlt' := ltI_t hlt
    have hw := wr_succ (i := i) (by omega)
    cases h1 : ltI ↑c 32 <;> cases h2 : ltI 126 ↑c <;> cases h3' : intBeq ↑c 34 <;>
      simp [b37_0, loopOf, Tryz.f98, loops, EVT, endL, evSeq, evOne, evAct, evOp, opKind, evPure, evRead, evNew, evWrite, evSlice, natOf, optVal, readAt, AV.cells, wantedA, putTm, val, allVals, evBin, evInt, evStr, evAppend, evMin, nilCmp, denseFrom, sizesAre, onesIn, evPlan, recheck, H.new, H.put, fillF, fillAt, allOne, AV.one, setArgs, evRes, resOf, ofVal, ofVal0, isShift, ikBeq, TYC, lp, e7ty, e7pl, h0, h3, hlt', hc, h1, h2, h3', hw] at hx
    case false.false.false =>
      rw [hR] at hx
      have e : allP (c :: l) = allP l := by simp [allP, pPlain, h1, h2, h3']
      rw [e]
      exact loop37 hl l (i + 1) hx hd' hlt (by simp [T.get_set_ite, h0]) (by simp [T.get_set_ite])
    all_goals
      have e : allP (c :: l) = false := by simp [allP, pPlain, h1, h2, h3']
      rw [e]
      exact ⟨_, by rw [← hx]; rfl, by simp, by simp [T.get_set_ite]⟩
def okT (s : List Nat) : Bool := allP s && !ltI 40 ↑s.length
theorem rtext_run (s : List Nat) (hl : s.length < 4611686018427387904) : ∃ h1, evL env7 98 [.str s] ⟨.e, 0⟩ = some (.bool (okT s), h1) := by
  rw [evL_fn env7 (by kernel_rfl) (by kernel_rfl) body37 _ _ rfl]
  simp only [codeAt, sub, Tryz.f98]
  simp [EVT, endL, evSeq, evOne, evAct, evOp, opKind, evPure, evRead, evNew, evWrite, evSlice, natOf, optVal, readAt, AV.cells, wantedA, putTm, val, allVals, evBin, evInt, evStr, evAppend, evMin, nilCmp, denseFrom, sizesAre, onesIn, evPlan, recheck, H.new, H.put, fillF, fillAt, allOne, AV.one, setArgs, evRes, resOf, ofVal, ofVal0, isShift, ikBeq, TYC, e7ty, e7pl]
  generalize hx : cdL env7 98 29 (.loop b37_0) _ _ = x
  obtain ⟨tm', rfl, g1, g2⟩ := loop37 (s := s) hl s 0 hx rfl (Nat.zero_le _) (by simp [T.get_set_ite]) (by simp [T.get_set_ite])
  cases hb : allP s with
  | true => simp [EVT, endL, evSeq, evOne, evAct, evOp, opKind, evPure, evRead, evNew, evWrite, evSlice, natOf, optVal, readAt, AV.cells, wantedA, putTm, val, allVals, evBin, evInt, evStr, evAppend, evMin, nilCmp, denseFrom, sizesAre, onesIn, evPlan, recheck, H.new, H.put, fillF, fillAt, allOne, AV.one, setArgs, evRes, resOf, ofVal, ofVal0, isShift, ikBeq, TYC, e7ty, e7pl, g1 hb, okT, hb]
  | false => simp [EVT, endL, evSeq, evOne, evAct, evOp, opKind, evPure, evRead, evNew, evWrite, evSlice, natOf, optVal, readAt, AV.cells, wantedA, putTm, val, allVals, evBin, evInt, evStr, evAppend, evMin, nilCmp, denseFrom, sizesAre, onesIn, evPlan, recheck, H.new, H.put, fillF, fillAt, allOne, AV.one, setArgs, evRes, resOf, ofVal, ofVal0, isShift, ikBeq, TYC, e7ty, e7pl, g2 hb, okT, hb]

/-! ### A sign -/
end Go.Proofs.YtogjplcnmibnlaaGreatDoor.Lx
/- The reference's name, number, string; the token that stands there. -/
namespace Go.Proofs.YtogjplcnmibnlaaGreatDoor.Lx
open Go.Ev Go.Proofs.YtogjplcnmibnlaaGreatDoor.Env

/-- A function of a text. -/
def lenOk (s : List Nat) : Bool := Nat.blt s.length 140737488355328
theorem lenOk_iff {s : List Nat} : lenOk s = true ↔ s.length < 140737488355328 := by simp [lenOk, blt_dec]
def pS (q : List Nat → Bool) (r : List Nat → AV) : List AV → Option AV
  | [.str s] => bif q s then some (r s) else none
  | _ => none
theorem pS_ok {E : Env} (hE : EnvOk Tryz.prog E) {f : Nat} {fn : Func} {q : List Nat → Bool} {r : List Nat → AV} (hfn : Tryz.prog.funcs[f]? = some fn) (hnm : (fn.name == "runtime.NumGoroutine") = false) (hb : fn.body.isNone = false)
    (hr : ∀ s, q s = true → (∃ h1, evL E f [.str s] ⟨.e, 0⟩ = some (r s, h1)) ∧ (r s).pure = true ∧ (r s).forget = r s) : PrimOk Tryz.prog f (primPure (pS q r)) := by
  refine pureL_ok hE hfn hnm hb fun args v hv => ?_
  unfold pS at hv
  split at hv
  · rename_i s
    cases hq : q s with
    | false => rw [hq] at hv; simp at hv
    | true =>
      rw [hq] at hv
      simp only [cond_true, Option.some.injEq] at hv
      subst hv
      obtain ⟨⟨h1, e⟩, h2, h3⟩ := hr s hq
      exact ⟨_, h1, e, h2, h3⟩
  · simp at hv
theorem pS_call {E : Env} {f : Nat} {q : List Nat → Bool} {r : List Nat → AV} (he : E.prim f = some (primPure (pS q r))) (h : H) (s : List Nat) (hq : q s = true) : evL E f [.str s] h = some (r s, h) := by
  rw [evL_prim E he]
  simp [primPure, AV.pures, AV.pure, AV.forgets, AV.forget, pS, hq]
def isW (v : List Nat) : Bool := wordsL.any (natsBeq · v)
noncomputable def env8 : Env := addPrim (addPrim env7 118 (primPure (pS lenOk fun s => .bool (isW s)))) 98 (primPure (pS lenOk fun s => .bool (okT s)))
theorem env8_ok : EnvOk Tryz.prog env8 :=
  addPrim_ok (addPrim_ok env7_ok
    (pS_ok env7_ok Tryz.func118 (by kernel_rfl) (by kernel_rfl) fun s _ => ⟨word_run s, rfl, rfl⟩))
    (pS_ok env7_ok Tryz.func98 (by kernel_rfl) (by kernel_rfl) fun s hs => ⟨rtext_run s (by have := lenOk_iff.1 hs; omega), rfl, rfl⟩)
theorem e8ty : env8.ty = env.ty := rfl
theorem e8pl : env8.plan = env.plan := rfl
theorem e8_36 (h : H) (s : List Nat) (hs : lenOk s = true) : evL env8 118 [.str s] h = some (.bool (isW s), h) := pS_call (r := fun s => .bool (isW s)) (by kernel_rfl) h s hs
theorem e8_37 (h : H) (s : List Nat) (hs : lenOk s = true) : evL env8 98 [.str s] h = some (.bool (okT s), h) := pS_call (r := fun s => .bool (okT s)) (by kernel_rfl) h s hs
theorem e8_23 (c : Int) (h : H) : evL env8 85 [.int .u8 c] h = some (.bool (pLetter c), h) := by
  rw [evL_prim env8 (f := 85) (p := primPure (pI pLetter)) (by kernel_rfl)]; rfl
theorem e8_25 (c : Int) (h : H) : evL env8 87 [.int .u8 c] h = some (.bool (pDigit c), h) := by
  rw [evL_prim env8 (f := 87) (p := primPure (pI pDigit)) (by kernel_rfl)]; rfl

/-! ### A name -/
noncomputable def b24_0 : Code := loopOf Tryz.f86 0
theorem body24 : Tryz.f86.body = some (.seq (codeAt Tryz.f86 [0]) (.seq (codeAt Tryz.f86 [1, 0]) (.seq (.block 0 (.loop b24_0)) (codeAt Tryz.f86 [1, 1, 1])))) := rfl
theorem loop24 {s : List Nat} (hl : s.length < 4611686018427387904) : ∀ (l : List Nat) (i : Nat) {tm : Tm} {h : H} {x : Option (Ex × Tm × H)}, cdL env8 86 52 (.loop b24_0) tm h = x → l = s.drop i → i ≤ s.length →
    tm.get 0 = some (.str s) → tm.get 4 = some (.int .i64 ↑i) → ∃ tm', x = some (.exit 0, tm', h) ∧ tm'.get 0 = some (.str s) ∧ tm'.get 2 = tm.get 2 ∧ tm'.get 4 = some (.int .i64 ↑(i + cnt pMore l))
  | [], i, tm, h, x, hx, hd, hi, h0, h4 => by
    have hlen := dnil hd hi
    obtain ⟨R, hR, hx⟩ := loop_step hx
    simp [b24_0, loopOf, Tryz.f86, loops, EVT, endL, evSeq, evOne, evAct, evOp, opKind, evPure, evRead, evNew, evWrite, evSlice, natOf, optVal, readAt, AV.cells, wantedA, putTm, val, allVals, evBin, evInt, evStr, evAppend, evMin, nilCmp, denseFrom, sizesAre, onesIn, evPlan, recheck, H.new, H.put, fillF, fillAt, allOne, AV.one, setArgs, evRes, resOf, ofVal, ofVal0, isShift, ikBeq, TYC, lp, e8ty, e8pl, h0, h4, hlen, ltI_f] at hx
    exact ⟨_, by rw [← hx], by simp [T.get_set_ite, h0], by simp [T.get_set_ite], by simp [T.get_set_ite, cnt, h4]⟩
  | c :: l, i, tm, h, x, hx, hd, hi, h0, h4 => by
    obtain ⟨hlt, hc, hd'⟩ := dcons hd
    obtain ⟨R, hR, hx⟩ := loop_step hx
    have hlt' := ltI_t hlt
    have hw := wr_succ (i := i) (by omega)
    have hm : pMore ↑c = (pLetter ↑c || (pDigit ↑c || (intBeq ↑c 95 || intBeq ↑c 39))) := rfl
    have key : x = R tm h → True := fun _ => trivial
    cases h1 : pLetter ↑c <;> cases h2 : pDigit ↑c <;> cases h3 : intBeq ↑c 95 <;> cases h5 : intBeq ↑c 39 <;>
      simp [b24_0, loopOf, Tryz.f86, loops, EVT, endL, evSeq, evOne, evAct, evOp, opKind, evPure, evRead, evNew, evWrite, evSlice, natOf, optVal, readAt, AV.cells, wantedA, putTm, val, allVals, evBin, evInt, evStr, evAppend, evMin, nilCmp, denseFrom, sizesAre, onesIn, evPlan, recheck, H.new, H.put, fillF, fillAt, allOne, AV.one, setArgs, evRes, resOf, ofVal, ofVal0, isShift, ikBeq, TYC, lp, e8ty, e8pl, e8_23, e8_25, h0, h4, hlt', hc, h1, h2, h3, h5, hw] at hx
    case false.false.false.false =>
      have e : cnt pMore (c :: l) = 0 := by simp [cnt, hm, h1, h2, h3, h5]
      rw [e]
      exact ⟨_, by rw [← hx], by simp [T.get_set_ite, h0], by simp [T.get_set_ite], by simp [T.get_set_ite, h4]⟩
    all_goals
      rw [hR] at hx
      have e : cnt pMore (c :: l) = cnt pMore l + 1 := by simp [cnt, hm, h1, h2, h3, h5]
      obtain ⟨tm', g0, g1, g2, g3⟩ := loop24 hl l (i + 1) hx hd' hlt (by simp [T.get_set_ite, h0]) (by simp [T.get_set_ite])
      exact ⟨tm', g0, g1, by rw [g2]; simp [T.get_set_ite], by rw [g3, e]; simp [Nat.add_assoc, Nat.add_comm 1]⟩
def rname (s : List Nat) : AV :=
  let n := 1 + cnt pMore (s.drop 1)
  bif isW (s.take n) then .tup [tokA 4 (s.take n) 0 0, .int .i64 ↑n] else bif ltI 12 ↑n then .tup [tokA 0 [] 0 0, .int .i64 0] else .tup [tokA 1 (s.take n) 0 0, .int .i64 ↑n]
theorem rname_run (s : List Nat) (hl : s.length < 140737488355328) (hs : 0 < s.length) : ∃ h1, evL env8 86 [.str s] ⟨.e, 0⟩ = some (rname s, h1) := by
  rw [evL_fn env8 (by kernel_rfl) (by kernel_rfl) body24 _ _ rfl]
  simp only [codeAt, sub, Tryz.f86]
  simp [EVT, endL, evSeq, evOne, evAct, evOp, opKind, evPure, evRead, evNew, evWrite, evSlice, natOf, optVal, readAt, AV.cells, wantedA, putTm, val, allVals, evBin, evInt, evStr, evAppend, evMin, nilCmp, denseFrom, sizesAre, onesIn, evPlan, recheck, H.new, H.put, fillF, fillAt, allOne, AV.one, setArgs, evRes, resOf, ofVal, ofVal0, isShift, ikBeq, TYC, e8ty, e8pl]
  generalize hx : cdL env8 86 52 (.loop b24_0) _ _ = x
  obtain ⟨tm', rfl, g0, g2, g4⟩ := loop24 (s := s) (by omega) (s.drop 1) 1 hx rfl hs (by simp [T.get_set_ite]) (by simp [T.get_set_ite])
  simp [T.get_set_ite] at g2
  have hn := cnt_le pMore (s.drop 1)
  rw [List.length_drop] at hn
  unfold rname
  simp only
  generalize hm : 1 + cnt pMore (s.drop 1) = m at *
  have hm1 : m ≤ s.length := by omega
  have ht : lenOk (s.take m) = true := lenOk_iff.2 (by simp; omega)
  have w1 := fun h => e8_36 h (s.take m) ht
  cases h1 : isW (s.take m) with
  | true => simp [EVT, endL, evSeq, evOne, evAct, evOp, opKind, evPure, evRead, evNew, evWrite, evSlice, natOf, optVal, readAt, AV.cells, wantedA, putTm, val, allVals, evBin, evInt, evStr, evAppend, evMin, nilCmp, denseFrom, sizesAre, onesIn, evPlan, recheck, H.new, H.put, fillF, fillAt, allOne, AV.one, setArgs, evRes, resOf, ofVal, ofVal0, isShift, ikBeq, TYC, e8ty, e8pl, g0, g2, g4, hm1, w1, h1, tokA]
  | false =>
    cases h2 : ltI 12 ↑m with
    | true => simp [EVT, endL, evSeq, evOne, evAct, evOp, opKind, evPure, evRead, evNew, evWrite, evSlice, natOf, optVal, readAt, AV.cells, wantedA, putTm, val, allVals, evBin, evInt, evStr, evAppend, evMin, nilCmp, denseFrom, sizesAre, onesIn, evPlan, recheck, H.new, H.put, fillF, fillAt, allOne, AV.one, setArgs, evRes, resOf, ofVal, ofVal0, isShift, ikBeq, TYC, e8ty, e8pl, g0, g2, g4, hm1, w1, h1, h2, tokA]
    | false => simp [EVT, endL, evSeq, evOne, evAct, evOp, opKind, evPure, evRead, evNew, evWrite, evSlice, natOf, optVal, readAt, AV.cells, wantedA, putTm, val, allVals, evBin, evInt, evStr, evAppend, evMin, nilCmp, denseFrom, sizesAre, onesIn, evPlan, recheck, H.new, H.put, fillF, fillAt, allOne, AV.one, setArgs, evRes, resOf, ofVal, ofVal0, isShift, ikBeq, TYC, e8ty, e8pl, g0, g2, g4, hm1, w1, h1, h2, tokA]

end Go.Proofs.YtogjplcnmibnlaaGreatDoor.Lx
