/- The token at a place: the program's. -/
import Derived.Test.YtncccgglillmoaaGreatDoorZTLNum
set_option autoImplicit false
set_option maxRecDepth 100000
set_option linter.unusedSimpArgs false
set_option linter.unusedVariables false
set_option linter.unusedSectionVars false
namespace Go.Proofs.YtncccgglillmoaaGreatDoor.Lx
open Go.Ev Go.Proofs.YtncccgglillmoaaGreatDoor.Env

def nameRes (s : List Nat) (a : Nat) : AV :=
  .tup [tokA (nameKind ((s.drop a).take (cnt pMore (s.drop a)))) ((s.drop a).take (cnt pMore (s.drop a))) 0 ↑a, .int .i64 ↑(cnt pMore (s.drop a)), .bool (!ltI 12 ↑(cnt pMore (s.drop a)))]
def textRes (s : List Nat) (a : Nat) : AV :=
  .tup [tokA 3 ((s.drop (a + 1)).take (cnt pPlain (s.drop (a + 1)))) 0 ↑a, .int .i64 ↑(cnt pPlain (s.drop (a + 1)) + 2), .bool (okText s (a + 1 + cnt pPlain (s.drop (a + 1))) (cnt pPlain (s.drop (a + 1))))]
/-- A function of a text and a place in it. -/
def pSA (r : List Nat → Nat → AV) : List AV → Option AV
  | [.str s, .int .i64 (.ofNat a)] => bif Nat.blt s.length 140737488355328 && Nat.blt a s.length then some (r s a) else none
  | _ => none
theorem pSA_ok {E : Env} (hE : EnvOk Tryz.prog E) {f : Nat} {fn : Func} {r : List Nat → Nat → AV} (hfn : Tryz.prog.funcs[f]? = some fn) (hnm : (fn.name == "runtime.NumGoroutine") = false) (hb : fn.body.isNone = false)
    (hr : ∀ (s : List Nat) (a : Nat), s.length < 140737488355328 → a < s.length → ∃ k h1, evFn E k f [.str s, .int .i64 ↑a] ⟨.e, 0⟩ = some (r s a, h1)) (hp : ∀ s a, (r s a).pure = true ∧ (r s a).forget = r s a) : PrimOk Tryz.prog f (primPure (pSA r)) := by
  refine primPure_ok hE hfn hnm hb fun args v hv => ?_
  unfold pSA at hv
  split at hv
  · rename_i s a
    cases hc : (Nat.blt s.length 140737488355328 && Nat.blt a s.length) with
    | false => rw [hc] at hv; simp at hv
    | true =>
      rw [hc] at hv
      simp only [cond_true, Option.some.injEq] at hv
      subst hv
      simp only [Bool.and_eq_true] at hc
      obtain ⟨k, h1, he⟩ := hr s a (blt_nat.1 hc.1) (blt_nat.1 hc.2)
      exact ⟨k, _, h1, he, (hp s a).1, (hp s a).2⟩
  · simp at hv
theorem p18_ok : PrimOk Tryz.prog 161 (primPure (pSA nameRes)) := pSA_ok env5_ok Tryz.func161 (by kernel_rfl) (by kernel_rfl) (fun s a h1 h2 => ⟨40, name_run s a (by omega) (by omega) 0⟩) (fun s a => ⟨rfl, rfl⟩)
theorem p21_ok : PrimOk Tryz.prog 164 (primPure (pSA textRes)) := pSA_ok env5_ok Tryz.func164 (by kernel_rfl) (by kernel_rfl) (fun s a h1 h2 => ⟨40, text_run s a (by omega) h2 0⟩) (fun s a => ⟨rfl, rfl⟩)
theorem p20_ok : PrimOk Tryz.prog 163 (primPure (pSA numRes)) := pSA_ok env5_ok Tryz.func163 (by kernel_rfl) (by kernel_rfl) (fun s a h1 h2 => number_run s a h1 h2) (fun s a => by unfold numRes; cases numBad s a (cnt pDigit (s.drop a)) <;> exact ⟨rfl, rfl⟩)
theorem p22_ok : PrimOk Tryz.prog 165 (primPure (pSA signRes)) := pSA_ok env5_ok Tryz.func165 (by kernel_rfl) (by kernel_rfl) (fun s a h1 h2 => ⟨100, sign_run s a (by omega)⟩) (fun s a => by unfold signRes; cases firstF (s.drop a) signsL <;> exact ⟨rfl, rfl⟩)
noncomputable def env6 : Env := addPrim (addPrim (addPrim (addPrim env5 161 (primPure (pSA nameRes))) 164 (primPure (pSA textRes))) 163 (primPure (pSA numRes))) 165 (primPure (pSA signRes))
theorem env6_ok : EnvOk Tryz.prog env6 := addPrim_ok (addPrim_ok (addPrim_ok (addPrim_ok env5_ok p18_ok) p21_ok) p20_ok) p22_ok
theorem e6_13 : env6.prim 149 = none := by kernel_rfl
theorem f6_13 : env6.fns 149 = some Tryz.f149 := by kernel_rfl
theorem e6_17 : env6.prim 160 = some (primPure (pI pLetter)) := by kernel_rfl
theorem e6_19 : env6.prim 162 = some (primPure (pI pDigit)) := by kernel_rfl
theorem e6_18 : env6.prim 161 = some (primPure (pSA nameRes)) := by kernel_rfl
theorem e6_20 : env6.prim 163 = some (primPure (pSA numRes)) := by kernel_rfl
theorem e6_21 : env6.prim 164 = some (primPure (pSA textRes)) := by kernel_rfl
theorem e6_22 : env6.prim 165 = some (primPure (pSA signRes)) := by kernel_rfl
theorem t6_9 : env6.ty 9 = some { kind := TK.str, sz := 1, byt := 16, zero := some (AV.str []), ag := false, eqf := none } := by kernel_rfl
theorem t6_33 : env6.ty 59 = some { kind := TK.st [(0, 1, false), (1, 1, false), (2, 1, false), (3, 1, false)], sz := 4, byt := 40, zero := some (AV.agg [AV.int IntKind.i64 0, AV.str [], AV.int IntKind.i64 0, AV.int IntKind.i64 0]), ag := true, eqf := some [(0, 0), (1, 1), (2, 0), (3, 0)] } := by kernel_rfl
theorem pSA_call {E : Env} {f : Nat} {r : List Nat → Nat → AV} (he : E.prim f = some (primPure (pSA r))) (k : Nat) (h : H) (s : List Nat) (a : Nat) (hl : s.length < 140737488355328) (ha : a < s.length) : evFn E (k + 1) f [.str s, .int .i64 ↑a] h = some (r s a, h) := by
  rw [evFn_prim he]
  simp [primPure, AV.pures, AV.pure, AV.forgets, AV.forget, pSA, blt_dec, hl, ha]
theorem pI_call {E : Env} {f : Nat} {q : Int → Bool} (he : E.prim f = some (primPure (pI q))) (k : Nat) (h : H) (c : Int) : evFn E (k + 1) f [.int .u8 c] h = some (.bool (q c), h) := by
  rw [evFn_prim he]
  simp [primPure, AV.pures, AV.pure, AV.forgets, AV.forget, pI]
def isTok (v : AV) : Prop := ∃ (x1 : Int) (x2 : List Nat) (x3 x4 n : Int) (b : Bool), v = .tup [.agg [.int .i64 x1, .str x2, .int .i64 x3, .int .i64 x4], .int .i64 n, .bool b]
theorem nameRes_tok (s : List Nat) (a : Nat) : isTok (nameRes s a) := ⟨_, _, _, _, _, _, rfl⟩
theorem textRes_tok (s : List Nat) (a : Nat) : isTok (textRes s a) := ⟨_, _, _, _, _, _, rfl⟩
theorem numRes_tok (s : List Nat) (a : Nat) : isTok (numRes s a) := by unfold numRes; cases numBad s a (cnt pDigit (s.drop a)) <;> exact ⟨_, _, _, _, _, _, rfl⟩
theorem signRes_tok (s : List Nat) (a : Nat) : isTok (signRes s a) := by unfold signRes; cases firstF (s.drop a) signsL <;> exact ⟨_, _, _, _, _, _, rfl⟩
def tokRes (s : List Nat) (a : Nat) : AV := match s[a]? with
  | none => .tup []
  | some c => bif pLetter ↑c then nameRes s a else bif pDigit ↑c then numRes s a else bif intBeq ↑c 34 then textRes s a else signRes s a
theorem token_run (s : List Nat) (a : Nat) (hl : s.length < 140737488355328) (ha : a < s.length) (k : Nat) : ∃ h1, evFn env6 (k + 40) 149 [.str s, .int .i64 ↑a] ⟨.e, 0⟩ = some (tokRes s a, h1) := by
  obtain ⟨c, hc⟩ : ∃ c, s[a]? = some c := ⟨_, List.getElem?_eq_getElem ha⟩
  have cn := fun k h => pSA_call e6_18 k h s a hl ha
  have cu := fun k h => pSA_call e6_20 k h s a hl ha
  have ct := fun k h => pSA_call e6_21 k h s a hl ha
  have cs := fun k h => pSA_call e6_22 k h s a hl ha
  have cl := fun k h => pI_call e6_17 k h ↑c
  have cd := fun k h => pI_call e6_19 k h ↑c
  unfold tokRes
  rw [hc]
  simp only
  rw [evFn]
  simp only [e6_13, f6_13, Tryz.f149]
  cases h1 : pLetter ↑c with
  | true =>
    obtain ⟨x1, x2, x3, x4, n, b, hx⟩ := nameRes_tok s a
    rw [hx] at cn ⊢
    simp [evCode, EVT0, evSeq, evOne, evAct, evOp, opKind, evPure, evRead, evNew, evWrite, evSlice, natOf, optVal, readAt, AV.cells, wantedA, putTm, val, allVals, evBin, evInt, evStr, evAppend, evMin, nilCmp, denseFrom, sizesAre, onesIn, evPlan, recheck, H.new, H.put, fillF, fillAt, allOne, AV.one, setArgs, evRes, resOf, ofVal, ofVal0, isShift, ikBeq, MTC, t6_9, t6_33, hc, cl, cn, h1]
  | false =>
    cases h2 : pDigit ↑c with
    | true =>
      obtain ⟨x1, x2, x3, x4, n, b, hx⟩ := numRes_tok s a
      rw [hx] at cu ⊢
      simp [evCode, EVT0, evSeq, evOne, evAct, evOp, opKind, evPure, evRead, evNew, evWrite, evSlice, natOf, optVal, readAt, AV.cells, wantedA, putTm, val, allVals, evBin, evInt, evStr, evAppend, evMin, nilCmp, denseFrom, sizesAre, onesIn, evPlan, recheck, H.new, H.put, fillF, fillAt, allOne, AV.one, setArgs, evRes, resOf, ofVal, ofVal0, isShift, ikBeq, MTC, t6_9, t6_33, hc, cl, cd, cu, h1, h2]
    | false =>
      cases h3 : intBeq ↑c 34 with
      | true =>
        obtain ⟨x1, x2, x3, x4, n, b, hx⟩ := textRes_tok s a
        rw [hx] at ct ⊢
        simp [evCode, EVT0, evSeq, evOne, evAct, evOp, opKind, evPure, evRead, evNew, evWrite, evSlice, natOf, optVal, readAt, AV.cells, wantedA, putTm, val, allVals, evBin, evInt, evStr, evAppend, evMin, nilCmp, denseFrom, sizesAre, onesIn, evPlan, recheck, H.new, H.put, fillF, fillAt, allOne, AV.one, setArgs, evRes, resOf, ofVal, ofVal0, isShift, ikBeq, MTC, t6_9, t6_33, hc, cl, cd, ct, h1, h2, h3]
      | false =>
        obtain ⟨x1, x2, x3, x4, n, b, hx⟩ := signRes_tok s a
        rw [hx] at cs ⊢
        simp [evCode, EVT0, evSeq, evOne, evAct, evOp, opKind, evPure, evRead, evNew, evWrite, evSlice, natOf, optVal, readAt, AV.cells, wantedA, putTm, val, allVals, evBin, evInt, evStr, evAppend, evMin, nilCmp, denseFrom, sizesAre, onesIn, evPlan, recheck, H.new, H.put, fillF, fillAt, allOne, AV.one, setArgs, evRes, resOf, ofVal, ofVal0, isShift, ikBeq, MTC, t6_9, t6_33, hc, cl, cd, cs, h1, h2, h3]
end Go.Proofs.YtncccgglillmoaaGreatDoor.Lx
/- All tokens of a text: the program's. -/
namespace Go.Proofs.YtncccgglillmoaaGreatDoor.Lx
open Go.Ev Go.Proofs.YtncccgglillmoaaGreatDoor.Env

noncomputable def env7 : Env := addPrim env6 149 (primPure (pSA tokRes))
theorem isTok_pure {v : AV} (h : isTok v) : v.pure = true ∧ v.forget = v := by
  obtain ⟨x1, x2, x3, x4, n, b, rfl⟩ := h
  exact ⟨rfl, rfl⟩
theorem tokRes_pure (s : List Nat) (a : Nat) : (tokRes s a).pure = true ∧ (tokRes s a).forget = tokRes s a := by
  unfold tokRes
  cases s[a]? with
  | none => exact ⟨rfl, rfl⟩
  | some c =>
    simp only
    cases pLetter ↑c with
    | true => exact isTok_pure (nameRes_tok s a)
    | false =>
      cases pDigit ↑c with
      | true => exact isTok_pure (numRes_tok s a)
      | false =>
        cases intBeq ↑c 34 with
        | true => exact isTok_pure (textRes_tok s a)
        | false => exact isTok_pure (signRes_tok s a)
theorem p13_ok : PrimOk Tryz.prog 149 (primPure (pSA tokRes)) := pSA_ok env6_ok Tryz.func149 (by kernel_rfl) (by kernel_rfl) (fun s a h1 h2 => ⟨40, token_run s a h1 h2 0⟩) tokRes_pure
theorem env7_ok : EnvOk Tryz.prog env7 := addPrim_ok env6_ok p13_ok
theorem e7_8 : env7.prim 136 = none := by kernel_rfl
theorem f7_8 : env7.fns 136 = some Tryz.f136 := by kernel_rfl
theorem e7_13 : env7.prim 149 = some (primPure (pSA tokRes)) := by kernel_rfl
theorem t7_9 : env7.ty 9 = some { kind := TK.str, sz := 1, byt := 16, zero := some (AV.str []), ag := false, eqf := none } := by kernel_rfl
theorem t7_22 : env7.ty 51 = some { kind := TK.sl 59, sz := 1, byt := 24, zero := some (AV.sl Own.full []), ag := false, eqf := none } := by kernel_rfl
theorem t7_33 : env7.ty 59 = some { kind := TK.st [(0, 1, false), (1, 1, false), (2, 1, false), (3, 1, false)], sz := 4, byt := 40, zero := some (AV.agg [AV.int IntKind.i64 0, AV.str [], AV.int IntKind.i64 0, AV.int IntKind.i64 0]), ag := true, eqf := some [(0, 0), (1, 1), (2, 0), (3, 0)] } := by kernel_rfl
noncomputable def b8 : Code := loopOf Tryz.f136 0
def isBlank (c : Nat) : Bool := intBeq ↑c 32 || (intBeq ↑c 9 || intBeq ↑c 10)
structure R8 (s : List Nat) (a : Nat) (o : Own) (l : List AV) (tm : Tm) : Prop where
  g0 : tm.get 0 = some (.str s)
  g2 : tm.get 2 = some (.sl o l)
  g3 : tm.get 3 = some (.int .i64 ↑a)
theorem blank8 (call : CallF) (s : List Nat) (a : Nat) (o : Own) (l : List AV) (tm : Tm) (h : H) (k : Nat) (c : Nat) (R : R8 s a o l tm) (hl : s.length < 4611686018427387904) (hc : s[a]? = some c) (hb : isBlank c = true) :
    ∃ tm', evCode call env7 136 56 (k + 20) b8 tm h = some (.normal, tm', h) ∧ R8 s (a + 1) o l tm' := by
  obtain ⟨h0, h2, h3⟩ := R
  have hil := getElem?_lt hc
  have hw2 : wr .i64 (↑a + 1) = ↑(a + 1) := by have := wr_nat (n := a + 1) (by omega); simpa using this
  have hlt' : ltI ↑a ↑s.length = true := by rw [ltI_nat]; simp [hil]
  generalize hm' : a + 1 = m' at *
  have fin : ∀ tm', R8 s m' o l tm' ↔ (tm'.get 0 = some (.str s) ∧ tm'.get 2 = some (.sl o l) ∧ tm'.get 3 = some (.int .i64 ↑m')) := fun tm' => ⟨fun r => ⟨r.g0, r.g2, r.g3⟩, fun r => ⟨r.1, r.2.1, r.2.2⟩⟩
  simp only [b8, loopOf, Tryz.f136, loops, List.nil_append, List.append_nil, List.cons_append]
  simp only [isBlank] at hb
  cases e1 : intBeq ↑c 32 <;> cases e2 : intBeq ↑c 9 <;> cases e3 : intBeq ↑c 10 <;> simp [e1, e2, e3] at hb <;>
    simp [evCode, EVT0, evSeq, evOne, evAct, evOp, opKind, evPure, evRead, evNew, evWrite, evSlice, natOf, optVal, readAt, AV.cells, wantedA, putTm, val, allVals, evBin, evInt, evStr, evAppend, evMin, nilCmp, denseFrom, sizesAre, onesIn, evPlan, recheck, H.new, H.put, fillF, fillAt, allOne, AV.one, setArgs, evRes, resOf, ofVal, ofVal0, isShift, ikBeq, MTC, h0, h2, h3, t7_9, hw2, hlt', hc, e1, e2, e3, fin]
theorem stop8 (call : CallF) (s : List Nat) (a : Nat) (o : Own) (l : List AV) (tm : Tm) (h : H) (k : Nat) (R : R8 s a o l tm) (hs : s.length ≤ a) :
    ∃ tm', evCode call env7 136 56 (k + 20) b8 tm h = some (.exit 0, tm', h) ∧ R8 s a o l tm' := by
  obtain ⟨h0, h2, h3⟩ := R
  have hlt' : ltI ↑a ↑s.length = false := by rw [ltI_nat]; simp [hs]
  have fin : ∀ tm', R8 s a o l tm' ↔ (tm'.get 0 = some (.str s) ∧ tm'.get 2 = some (.sl o l) ∧ tm'.get 3 = some (.int .i64 ↑a)) := fun tm' => ⟨fun r => ⟨r.g0, r.g2, r.g3⟩, fun r => ⟨r.1, r.2.1, r.2.2⟩⟩
  simp only [b8, loopOf, Tryz.f136, loops, List.nil_append, List.append_nil, List.cons_append]
  simp [evCode, EVT0, evSeq, evOne, evAct, evOp, opKind, evPure, evRead, evNew, evWrite, evSlice, natOf, optVal, readAt, AV.cells, wantedA, putTm, val, allVals, evBin, evInt, evStr, evAppend, evMin, nilCmp, denseFrom, sizesAre, onesIn, evPlan, recheck, H.new, H.put, fillF, fillAt, allOne, AV.one, setArgs, evRes, resOf, ofVal, ofVal0, isShift, ikBeq, MTC, h0, h2, h3, t7_9, hlt', fin]
theorem err8 (K : Nat) (s : List Nat) (a : Nat) (o : Own) (l : List AV) (tm : Tm) (h : H) (k : Nat) (c : Nat) (R : R8 s a o l tm) (hl : s.length < 140737488355328) (hc : s[a]? = some c) (hb : isBlank c = false)
    (x1 : Int) (x2 : List Nat) (x3 x4 n : Int) (ht : tokRes s a = .tup [.agg [.int .i64 x1, .str x2, .int .i64 x3, .int .i64 x4], .int .i64 n, .bool false]) :
    ∃ tm' h', evCode (evFn env7 (K + 1)) env7 136 56 (k + 20) b8 tm h = some (.ret, tm', h') ∧ tm'.get 2 = some (.sl .full []) ∧ tm'.get 3 = some (.int .i64 ↑a) ∧ tm'.get 4 = some (.int .i64 2) := by
  obtain ⟨h0, h2, h3⟩ := R
  have hil := getElem?_lt hc
  have hlt' : ltI ↑a ↑s.length = true := by rw [ltI_nat]; simp [hil]
  have ct := fun h => pSA_call e7_13 K h s a hl hil
  rw [ht] at ct
  simp only [b8, loopOf, Tryz.f136, loops, List.nil_append, List.append_nil, List.cons_append]
  simp only [isBlank] at hb
  cases e1 : intBeq ↑c 32 <;> cases e2 : intBeq ↑c 9 <;> cases e3 : intBeq ↑c 10 <;> simp [e1, e2, e3] at hb
  simp [evCode, EVT0, evSeq, evOne, evAct, evOp, opKind, evPure, evRead, evNew, evWrite, evSlice, natOf, optVal, readAt, AV.cells, wantedA, putTm, val, allVals, evBin, evInt, evStr, evAppend, evMin, nilCmp, denseFrom, sizesAre, onesIn, evPlan, recheck, H.new, H.put, fillF, fillAt, allOne, AV.one, setArgs, evRes, resOf, ofVal, ofVal0, isShift, ikBeq, MTC, h0, h2, h3, t7_9, t7_33, hlt', hc, e1, e2, e3, ct]
/-- The row of tokens, as it lies. -/
def Row (h : H) (o : Own) (l : List AV) : Prop := (o = .full ∧ l = []) ∨ ∃ id, o = .ch id ∧ h.t.get id = some (.chain l.length 59 4) ∧ id < h.nx
theorem tok8 (K : Nat) (s : List Nat) (a : Nat) (o : Own) (l : List AV) (tm : Tm) (h : H) (k : Nat) (c : Nat) (R : R8 s a o l tm) (hl : s.length < 140737488355328) (hc : s[a]? = some c) (hb : isBlank c = false)
    (x1 : Int) (x2 : List Nat) (x3 x4 : Int) (n : Nat) (ht : tokRes s a = .tup [.agg [.int .i64 x1, .str x2, .int .i64 x3, .int .i64 x4], .int .i64 ↑n, .bool true]) (han : a + n ≤ s.length) (hr : Row h o l) (hll : l.length ≤ 1000000) (hs : sizesAre 4 l = true) :
    ∃ tm' h' o', evCode (evFn env7 (K + 1)) env7 136 56 (k + 20) b8 tm h = some (.normal, tm', h') ∧ R8 s (a + n) o' (l ++ [.agg [.int .i64 x1, .str x2, .int .i64 x3, .int .i64 x4]]) tm' ∧ Row h' o' (l ++ [.agg [.int .i64 x1, .str x2, .int .i64 x3, .int .i64 x4]]) := by
  obtain ⟨h0, h2, h3⟩ := R
  have hil := getElem?_lt hc
  have hlt' : ltI ↑a ↑s.length = true := by rw [ltI_nat]; simp [hil]
  have hw : wr .i64 (↑a + ↑n) = ↑(a + n) := by have := wr_nat (n := a + n) (by omega); simpa using this
  have ct := fun h => pSA_call e7_13 K h s a hl hil
  rw [ht] at ct
  have hby : (l.length + 1) * 40 ≤ 140737488355328 := by omega
  generalize hm : a + n = m at *
  simp only [isBlank] at hb
  rcases hr with ⟨rfl, rfl⟩ | ⟨id, rfl, hg, hid⟩
  · simp only [b8, loopOf, Tryz.f136, loops, List.nil_append, List.append_nil, List.cons_append]
    cases e1 : intBeq ↑c 32 <;> cases e2 : intBeq ↑c 9 <;> cases e3 : intBeq ↑c 10 <;> simp [e1, e2, e3] at hb
    simp [evCode, EVT0, evSeq, evOne, evAct, evOp, opKind, evPure, evRead, evNew, evWrite, evSlice, natOf, optVal, readAt, AV.cells, wantedA, putTm, val, allVals, evBin, evInt, evStr, evAppend, evMin, nilCmp, denseFrom, sizesAre, onesIn, evPlan, recheck, H.new, H.put, fillF, fillAt, allOne, AV.one, setArgs, evRes, resOf, ofVal, ofVal0, isShift, ikBeq, MTC, h0, h2, h3, t7_9, t7_22, t7_33, hlt', hc, e1, e2, e3, ct, hw]
    refine ⟨_, _, ⟨rfl, rfl⟩, .ch (h.nx + 1), ⟨?_, ?_, ?_⟩, .inr ⟨h.nx + 1, rfl, ?_, ?_⟩⟩ <;> simp [T.get_set_ite, h0, h3]
  · simp only [b8, loopOf, Tryz.f136, loops, List.nil_append, List.append_nil, List.cons_append]
    have hne : id ≠ h.nx := by omega
    cases e1 : intBeq ↑c 32 <;> cases e2 : intBeq ↑c 9 <;> cases e3 : intBeq ↑c 10 <;> simp [e1, e2, e3] at hb
    simp [evCode, EVT0, evSeq, evOne, evAct, evOp, opKind, evPure, evRead, evNew, evWrite, evSlice, natOf, optVal, readAt, AV.cells, wantedA, putTm, val, allVals, evBin, evInt, evStr, evAppend, evMin, nilCmp, denseFrom, sizesAre, onesIn, evPlan, recheck, H.new, H.put, fillF, fillAt, allOne, AV.one, setArgs, evRes, resOf, ofVal, ofVal0, isShift, ikBeq, MTC, h0, h2, h3, t7_9, t7_22, t7_33, hlt', hc, e1, e2, e3, ct, hw, hg, hne, hs, hby]
    refine ⟨_, _, ⟨rfl, rfl⟩, .ch id, ⟨?_, ?_, ?_⟩, .inr ⟨id, rfl, ?_, ?_⟩⟩ <;> simp [T.get_set_ite, h0, h3] <;> omega
end Go.Proofs.YtncccgglillmoaaGreatDoor.Lx
