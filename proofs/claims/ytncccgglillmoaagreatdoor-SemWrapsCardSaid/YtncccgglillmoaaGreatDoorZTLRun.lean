/- The names that a node binds in a kid, both. -/
import Derived.Test.YtncccgglillmoaaGreatDoorEwM
import Derived.Test.YtncccgglillmoaaGreatDoorZFacts
import Derived.Test.YtncccgglillmoaaGreatDoorEvY
import Derived.Test.YtncccgglillmoaaGreatDoorEvZ
set_option autoImplicit false
set_option maxRecDepth 100000
set_option linter.unusedSimpArgs false
set_option linter.unusedVariables false
set_option linter.unusedSectionVars false
namespace Go.Proofs.YtncccgglillmoaaGreatDoor.Tr
open Go.Proofs.YtncccgglillmoaaGreatDoor.Env Go.Ev Go.Ev.Nd

def funS : List Nat := [102, 117, 110]
def letS : List Nat := [108, 101, 116]
def tryS : List Nat := [116, 114, 121]
def recS : List Nat := [114, 101, 99]
def matchS : List Nat := [109, 97, 116, 99, 104]
def varS : List Nat := [118, 97, 114]
def bindT (o p q : List Nat) (i : Int) : List Str :=
  bif natsBeq o funS || ((natsBeq o letS || natsBeq o tryS) && intBeq i 1) then [⟨p⟩] else
  bif (natsBeq o recS && intBeq i 0) || (natsBeq o matchS && intBeq i 2) then [⟨p⟩, ⟨q⟩] else bif natsBeq o recS then [⟨p⟩] else []
def bindR (o p q : List Nat) (i : Int) : List Str :=
  bif natsBeq o funS || ((natsBeq o letS && intBeq i 1) || ((natsBeq o tryS && intBeq i 1) || (natsBeq o recS && intBeq i 1))) then [⟨p⟩] else
  bif (natsBeq o recS && intBeq i 0) || (natsBeq o matchS && intBeq i 2) then [⟨p⟩, ⟨q⟩] else []
def bindTN (t : Nd) (i : Int) : List Str := bindT t.op t.name t.arg i
def bindRN (t : Nd) (i : Int) : List Str := bindR t.op t.name t.arg i
end Go.Proofs.YtncccgglillmoaaGreatDoor.Tr
/- The base of the lexer's texts at this seat. -/
namespace Go.Proofs.YtncccgglillmoaaGreatDoor.Lx
open Go.Ev Go.Proofs.YtncccgglillmoaaGreatDoor.Env
noncomputable abbrev env2 : Env := env
theorem env2_ok : EnvOk Tryz.prog env2 := env_ok
end Go.Proofs.YtncccgglillmoaaGreatDoor.Lx
/- What the lexers ask of one byte. -/
namespace Go.Proofs.YtncccgglillmoaaGreatDoor.Lx
open Go.Ev Go.Proofs.YtncccgglillmoaaGreatDoor.Env
def pLetter (c : Int) : Bool := !ltI c 97 && !ltI 122 c
def pDigit (c : Int) : Bool := !ltI c 48 && !ltI 57 c
def pMore (c : Int) : Bool := pLetter c || (pDigit c || (intBeq c 95 || intBeq c 39))
def pPlain (c : Int) : Bool := !ltI c 32 && (!ltI 126 c && !intBeq c 34)
theorem fn17 : env2.fns 160 = some Tryz.f160 := by kernel_rfl
theorem pr17 : env2.prim 160 = none := by kernel_rfl
theorem fn19 : env2.fns 162 = some Tryz.f162 := by kernel_rfl
theorem pr19 : env2.prim 162 = none := by kernel_rfl
theorem fn31 : env2.fns 176 = some Tryz.f176 := by kernel_rfl
theorem pr31 : env2.prim 176 = none := by kernel_rfl
theorem fn33 : env2.fns 179 = some Tryz.f179 := by kernel_rfl
theorem pr33 : env2.prim 179 = none := by kernel_rfl
theorem fn23 : env2.fns 78 = some Tryz.f78 := by kernel_rfl
theorem pr23 : env2.prim 78 = none := by kernel_rfl
theorem fn25 : env2.fns 80 = some Tryz.f80 := by kernel_rfl
theorem pr25 : env2.prim 80 = none := by kernel_rfl
theorem ty9 : env2.ty 9 = some { kind := TK.str, sz := 1, byt := 16, zero := some (AV.str []), ag := false, eqf := none } := by kernel_rfl

theorem isLetter_run (c : Int) (h : H) (k : Nat) : evFn env2 (k + 12) 160 [.int .u8 c] h = some (.bool (pLetter c), h) := by
  simp [pr17, fn17, Tryz.f160, evFn, evCode, EVT0, evSeq, evOne, evAct, evOp, opKind, evPure, evRead, evNew, evWrite, evSlice, natOf, optVal, readAt, AV.cells, wantedA, putTm, val, allVals, evBin, evInt, evStr, evAppend, evMin, nilCmp, denseFrom, sizesAre, onesIn, evPlan, recheck, H.new, H.put, fillF, fillAt, allOne, AV.one, setArgs, evRes, resOf, ofVal, ofVal0, isShift, ikBeq, MTC]
  cases h1 : ltI c 97 <;> cases h2 : ltI 122 c <;> simp [evFn, evCode, EVT0, evSeq, evOne, evAct, evOp, opKind, evPure, evRead, evNew, evWrite, evSlice, natOf, optVal, readAt, AV.cells, wantedA, putTm, val, allVals, evBin, evInt, evStr, evAppend, evMin, nilCmp, denseFrom, sizesAre, onesIn, evPlan, recheck, H.new, H.put, fillF, fillAt, allOne, AV.one, setArgs, evRes, resOf, ofVal, ofVal0, isShift, ikBeq, MTC, pLetter, h1, h2]
theorem isDigit_run (c : Int) (h : H) (k : Nat) : evFn env2 (k + 12) 162 [.int .u8 c] h = some (.bool (pDigit c), h) := by
  simp [pr19, fn19, Tryz.f162, evFn, evCode, EVT0, evSeq, evOne, evAct, evOp, opKind, evPure, evRead, evNew, evWrite, evSlice, natOf, optVal, readAt, AV.cells, wantedA, putTm, val, allVals, evBin, evInt, evStr, evAppend, evMin, nilCmp, denseFrom, sizesAre, onesIn, evPlan, recheck, H.new, H.put, fillF, fillAt, allOne, AV.one, setArgs, evRes, resOf, ofVal, ofVal0, isShift, ikBeq, MTC]
  cases h1 : ltI c 48 <;> cases h2 : ltI 57 c <;> simp [evFn, evCode, EVT0, evSeq, evOne, evAct, evOp, opKind, evPure, evRead, evNew, evWrite, evSlice, natOf, optVal, readAt, AV.cells, wantedA, putTm, val, allVals, evBin, evInt, evStr, evAppend, evMin, nilCmp, denseFrom, sizesAre, onesIn, evPlan, recheck, H.new, H.put, fillF, fillAt, allOne, AV.one, setArgs, evRes, resOf, ofVal, ofVal0, isShift, ikBeq, MTC, pDigit, h1, h2]
theorem small_run (c : Int) (h : H) (k : Nat) : evFn env2 (k + 12) 78 [.int .u8 c] h = some (.bool (pLetter c), h) := by
  simp [pr23, fn23, Tryz.f78, evFn, evCode, EVT0, evSeq, evOne, evAct, evOp, opKind, evPure, evRead, evNew, evWrite, evSlice, natOf, optVal, readAt, AV.cells, wantedA, putTm, val, allVals, evBin, evInt, evStr, evAppend, evMin, nilCmp, denseFrom, sizesAre, onesIn, evPlan, recheck, H.new, H.put, fillF, fillAt, allOne, AV.one, setArgs, evRes, resOf, ofVal, ofVal0, isShift, ikBeq, MTC]
  cases h1 : ltI c 97 <;> cases h2 : ltI 122 c <;> simp [evFn, evCode, EVT0, evSeq, evOne, evAct, evOp, opKind, evPure, evRead, evNew, evWrite, evSlice, natOf, optVal, readAt, AV.cells, wantedA, putTm, val, allVals, evBin, evInt, evStr, evAppend, evMin, nilCmp, denseFrom, sizesAre, onesIn, evPlan, recheck, H.new, H.put, fillF, fillAt, allOne, AV.one, setArgs, evRes, resOf, ofVal, ofVal0, isShift, ikBeq, MTC, pLetter, h1, h2]
theorem digit_run (c : Int) (h : H) (k : Nat) : evFn env2 (k + 12) 80 [.int .u8 c] h = some (.bool (pDigit c), h) := by
  simp [pr25, fn25, Tryz.f80, evFn, evCode, EVT0, evSeq, evOne, evAct, evOp, opKind, evPure, evRead, evNew, evWrite, evSlice, natOf, optVal, readAt, AV.cells, wantedA, putTm, val, allVals, evBin, evInt, evStr, evAppend, evMin, nilCmp, denseFrom, sizesAre, onesIn, evPlan, recheck, H.new, H.put, fillF, fillAt, allOne, AV.one, setArgs, evRes, resOf, ofVal, ofVal0, isShift, ikBeq, MTC]
  cases h1 : ltI c 48 <;> cases h2 : ltI 57 c <;> simp [evFn, evCode, EVT0, evSeq, evOne, evAct, evOp, opKind, evPure, evRead, evNew, evWrite, evSlice, natOf, optVal, readAt, AV.cells, wantedA, putTm, val, allVals, evBin, evInt, evStr, evAppend, evMin, nilCmp, denseFrom, sizesAre, onesIn, evPlan, recheck, H.new, H.put, fillF, fillAt, allOne, AV.one, setArgs, evRes, resOf, ofVal, ofVal0, isShift, ikBeq, MTC, pDigit, h1, h2]
theorem isPlain_run (c : Int) (h : H) (k : Nat) : evFn env2 (k + 12) 179 [.int .u8 c] h = some (.bool (pPlain c), h) := by
  simp [pr33, fn33, Tryz.f179, evFn, evCode, EVT0, evSeq, evOne, evAct, evOp, opKind, evPure, evRead, evNew, evWrite, evSlice, natOf, optVal, readAt, AV.cells, wantedA, putTm, val, allVals, evBin, evInt, evStr, evAppend, evMin, nilCmp, denseFrom, sizesAre, onesIn, evPlan, recheck, H.new, H.put, fillF, fillAt, allOne, AV.one, setArgs, evRes, resOf, ofVal, ofVal0, isShift, ikBeq, MTC]
  cases h1 : ltI c 32 <;> cases h2 : ltI 126 c <;> cases h3 : intBeq c 34 <;> simp [evFn, evCode, EVT0, evSeq, evOne, evAct, evOp, opKind, evPure, evRead, evNew, evWrite, evSlice, natOf, optVal, readAt, AV.cells, wantedA, putTm, val, allVals, evBin, evInt, evStr, evAppend, evMin, nilCmp, denseFrom, sizesAre, onesIn, evPlan, recheck, H.new, H.put, fillF, fillAt, allOne, AV.one, setArgs, evRes, resOf, ofVal, ofVal0, isShift, ikBeq, MTC, pPlain, h1, h2, h3]
theorem isMore_run (c : Int) (h : H) (k : Nat) : evFn env2 (k + 24) 176 [.int .u8 c] h = some (.bool (pMore c), h) := by
  have i1 := fun k => isLetter_run c h k
  have i2 := fun k => isDigit_run c h k
  rw [evFn]
  simp [pr31, fn31, Tryz.f176, evCode, EVT0, evSeq, evOne, evAct, evOp, opKind, evPure, evRead, evNew, evWrite, evSlice, natOf, optVal, readAt, AV.cells, wantedA, putTm, val, allVals, evBin, evInt, evStr, evAppend, evMin, nilCmp, denseFrom, sizesAre, onesIn, evPlan, recheck, H.new, H.put, fillF, fillAt, allOne, AV.one, setArgs, evRes, resOf, ofVal, ofVal0, isShift, ikBeq, MTC, i1, i2]
  cases h1 : pLetter c <;> cases h2 : pDigit c <;> cases h3 : intBeq c 95 <;> cases h4 : intBeq c 39 <;> simp [evCode, EVT0, evSeq, evOne, evAct, evOp, opKind, evPure, evRead, evNew, evWrite, evSlice, natOf, optVal, readAt, AV.cells, wantedA, putTm, val, allVals, evBin, evInt, evStr, evAppend, evMin, nilCmp, denseFrom, sizesAre, onesIn, evPlan, recheck, H.new, H.put, fillF, fillAt, allOne, AV.one, setArgs, evRes, resOf, ofVal, ofVal0, isShift, ikBeq, MTC, pMore, h1, h2, h3, h4, i1, i2]
end Go.Proofs.YtncccgglillmoaaGreatDoor.Lx
/- How many bytes from a place on are such: the program's run. -/
namespace Go.Proofs.YtncccgglillmoaaGreatDoor.Lx
open Go.Ev Go.Proofs.YtncccgglillmoaaGreatDoor.Env

theorem evFn_prim {E : Env} {f : Nat} {p : List AV → H → Option (AV × H)} (hp : E.prim f = some p) (k : Nat) (args : List AV) (h : H) : evFn E (k + 1) f args h = p args h := by
  rw [evFn, hp]

def pI (q : Int → Bool) : List AV → Option AV
  | [.int .u8 c] => some (.bool (q c))
  | _ => none
theorem pI_ok {f : Nat} {fn : Func} {q : Int → Bool} (hfn : Tryz.prog.funcs[f]? = some fn) (hnm : (fn.name == "runtime.NumGoroutine") = false) (hb : fn.body.isNone = false)
    (hr : ∀ c h k, evFn env2 (k + 24) f [.int .u8 c] h = some (.bool (q c), h)) : PrimOk Tryz.prog f (primPure (pI q)) := by
  refine primPure_ok env2_ok hfn hnm hb fun args v hv => ?_
  unfold pI at hv
  split at hv
  · rename_i c
    simp only [Option.some.injEq] at hv
    subst hv
    exact ⟨24, _, _, hr c _ 0, rfl, rfl⟩
  · simp at hv
noncomputable def env3 : Env := addPrim (addPrim (addPrim (addPrim (addPrim (addPrim env2 160 (primPure (pI pLetter))) 162 (primPure (pI pDigit))) 176 (primPure (pI pMore))) 179 (primPure (pI pPlain))) 78 (primPure (pI pLetter))) 80 (primPure (pI pDigit))
theorem env3_ok : EnvOk Tryz.prog env3 :=
  addPrim_ok (addPrim_ok (addPrim_ok (addPrim_ok (addPrim_ok (addPrim_ok env2_ok
    (pI_ok Tryz.func160 (by kernel_rfl) (by kernel_rfl) fun c h k => isLetter_run c h (k + 12)))
    (pI_ok Tryz.func162 (by kernel_rfl) (by kernel_rfl) fun c h k => isDigit_run c h (k + 12)))
    (pI_ok Tryz.func176 (by kernel_rfl) (by kernel_rfl) fun c h k => isMore_run c h k))
    (pI_ok Tryz.func179 (by kernel_rfl) (by kernel_rfl) fun c h k => isPlain_run c h (k + 12)))
    (pI_ok Tryz.func78 (by kernel_rfl) (by kernel_rfl) fun c h k => small_run c h (k + 12)))
    (pI_ok Tryz.func80 (by kernel_rfl) (by kernel_rfl) fun c h k => digit_run c h (k + 12))
theorem e3_17 : env3.prim 160 = some (primPure (pI pLetter)) := by kernel_rfl
theorem e3_19 : env3.prim 162 = some (primPure (pI pDigit)) := by kernel_rfl
theorem e3_31 : env3.prim 176 = some (primPure (pI pMore)) := by kernel_rfl
theorem e3_33 : env3.prim 179 = some (primPure (pI pPlain)) := by kernel_rfl
theorem e3_23 : env3.prim 78 = some (primPure (pI pLetter)) := by kernel_rfl
theorem e3_25 : env3.prim 80 = some (primPure (pI pDigit)) := by kernel_rfl
theorem e3_30 : env3.prim 175 = none := by kernel_rfl
theorem f3_30 : env3.fns 175 = some Tryz.f175 := by kernel_rfl
theorem t3_9 : env3.ty 9 = some { kind := TK.str, sz := 1, byt := 16, zero := some (AV.str []), ag := false, eqf := none } := by kernel_rfl

def cnt (q : Int → Bool) : List Nat → Nat
  | [] => 0
  | a :: l => bif q ↑a then cnt q l + 1 else 0

def predOf : Nat → Option (Int → Bool)
  | 162 => some pDigit
  | 176 => some pMore
  | 179 => some pPlain
  | _ => none
theorem pred_call {f : Nat} {q : Int → Bool} (hq : predOf f = some q) (k : Nat) (c : Int) (h : H) : evFn env3 (k + 1) f [.int .u8 c] h = some (.bool (q c), h) := by
  unfold predOf at hq
  split at hq <;> simp only [Option.some.injEq, reduceCtorEq] at hq <;> subst hq
  · rw [evFn_prim e3_19]; simp [primPure, pI, AV.pures, AV.pure, AV.forgets, AV.forget]
  · rw [evFn_prim e3_31]; simp [primPure, pI, AV.pures, AV.pure, AV.forgets, AV.forget]
  · rw [evFn_prim e3_33]; simp [primPure, pI, AV.pures, AV.pure, AV.forgets, AV.forget]

theorem wr_nat {n : Nat} (h : n < 9223372036854775808) : wr .i64 (↑n : Int) = ↑n := by
  rw [wr_eq]; exact wrap_i64_in (by omega) (by omega)
theorem ltI_nat (a b : Nat) : ltI (↑a) (↑b) = decide (a < b) := by rw [ltI_eq]; simp

noncomputable def b30 : Code := loopOf Tryz.f175 0
structure R30 (s : List Nat) (a n f : Nat) (tm : Tm) : Prop where
  g0 : tm.get 0 = some (.str s)
  g1 : tm.get 1 = some (.int .i64 ↑a)
  g2 : tm.get 2 = some (.fn f [] [])
  g7 : tm.get 7 = some (.int .i64 ↑n)
theorem round30 (call : CallF) (s : List Nat) (a n f : Nat) (tm : Tm) (h : H) (k : Nat) (c : Nat) (R : R30 s a n f tm) (hl : s.length < 4611686018427387904) (hlt : a + n < s.length) (hc : s[a + n]? = some c)
    (hp : call f [.int .u8 ↑c] h = some (.bool true, h)) : ∃ tm', evCode call env3 175 26 (k + 20) b30 tm h = some (.normal, tm', h) ∧ R30 s a (n + 1) f tm' := by
  obtain ⟨h0, h1, h2, h7⟩ := R
  have hw : wr .i64 (↑a + ↑n) = ↑(a + n) := by have := wr_nat (n := a + n) (by omega); simpa using this
  have hw2 : wr .i64 (↑n + 1) = ↑(n + 1) := by have := wr_nat (n := n + 1) (by omega); simpa using this
  have hlt' : ltI ↑(a + n) ↑s.length = true := by rw [ltI_nat]; simp [hlt]
  generalize hm : a + n = m at *
  generalize hm' : n + 1 = m' at *
  simp only [b30, loopOf, Tryz.f175, loops, List.nil_append, List.append_nil, List.cons_append]
  have fin : ∀ tm', R30 s a m' f tm' ↔ (tm'.get 0 = some (.str s) ∧ tm'.get 1 = some (.int .i64 ↑a) ∧ tm'.get 2 = some (.fn f [] []) ∧ tm'.get 7 = some (.int .i64 ↑m')) := fun tm' => ⟨fun r => ⟨r.g0, r.g1, r.g2, r.g7⟩, fun r => ⟨r.1, r.2.1, r.2.2.1, r.2.2.2⟩⟩
  simp [evFn, evCode, EVT0, evSeq, evOne, evAct, evOp, opKind, evPure, evRead, evNew, evWrite, evSlice, natOf, optVal, readAt, AV.cells, wantedA, putTm, val, allVals, evBin, evInt, evStr, evAppend, evMin, nilCmp, denseFrom, sizesAre, onesIn, evPlan, recheck, H.new, H.put, fillF, fillAt, allOne, AV.one, setArgs, evRes, resOf, ofVal, ofVal0, isShift, ikBeq, MTC, h0, h1, h2, h7, t3_9, hw, hw2, hlt', hc, hp, fin]
theorem stop30 (call : CallF) (s : List Nat) (a n f : Nat) (tm : Tm) (h : H) (k : Nat) (R : R30 s a n f tm) (hl : s.length < 4611686018427387904)
    (hs : (s.length ≤ a + n ∧ a + n < 4611686018427387904) ∨ ∃ c, a + n < s.length ∧ s[a + n]? = some c ∧ call f [.int .u8 ↑c] h = some (.bool false, h)) : ∃ tm', evCode call env3 175 26 (k + 20) b30 tm h = some (.exit 0, tm', h) ∧ R30 s a n f tm' := by
  obtain ⟨h0, h1, h2, h7⟩ := R
  have fin : ∀ tm', R30 s a n f tm' ↔ (tm'.get 0 = some (.str s) ∧ tm'.get 1 = some (.int .i64 ↑a) ∧ tm'.get 2 = some (.fn f [] []) ∧ tm'.get 7 = some (.int .i64 ↑n)) := fun tm' => ⟨fun r => ⟨r.g0, r.g1, r.g2, r.g7⟩, fun r => ⟨r.1, r.2.1, r.2.2.1, r.2.2.2⟩⟩
  rcases hs with hs | ⟨c, hlt, hc, hp⟩
  · have hw : wr .i64 (↑a + ↑n) = ↑(a + n) := by have := wr_nat (n := a + n) (by omega); simpa using this
    have hlt' : ltI ↑(a + n) ↑s.length = false := by rw [ltI_nat]; simp; omega
    generalize hm : a + n = m at *
    simp only [b30, loopOf, Tryz.f175, loops, List.nil_append, List.append_nil, List.cons_append]
    simp [evFn, evCode, EVT0, evSeq, evOne, evAct, evOp, opKind, evPure, evRead, evNew, evWrite, evSlice, natOf, optVal, readAt, AV.cells, wantedA, putTm, val, allVals, evBin, evInt, evStr, evAppend, evMin, nilCmp, denseFrom, sizesAre, onesIn, evPlan, recheck, H.new, H.put, fillF, fillAt, allOne, AV.one, setArgs, evRes, resOf, ofVal, ofVal0, isShift, ikBeq, MTC, h0, h1, h2, h7, t3_9, hw, hlt', fin]
  · have hw : wr .i64 (↑a + ↑n) = ↑(a + n) := by have := wr_nat (n := a + n) (by omega); simpa using this
    have hlt' : ltI ↑(a + n) ↑s.length = true := by rw [ltI_nat]; simp [hlt]
    generalize hm : a + n = m at *
    simp only [b30, loopOf, Tryz.f175, loops, List.nil_append, List.append_nil, List.cons_append]
    simp [evFn, evCode, EVT0, evSeq, evOne, evAct, evOp, opKind, evPure, evRead, evNew, evWrite, evSlice, natOf, optVal, readAt, AV.cells, wantedA, putTm, val, allVals, evBin, evInt, evStr, evAppend, evMin, nilCmp, denseFrom, sizesAre, onesIn, evPlan, recheck, H.new, H.put, fillF, fillAt, allOne, AV.one, setArgs, evRes, resOf, ofVal, ofVal0, isShift, ikBeq, MTC, h0, h1, h2, h7, t3_9, hw, hlt', hc, hp, fin]

theorem loop30 (K : Nat) (s : List Nat) (a f : Nat) {q : Int → Bool} (hq : predOf f = some q) (h : H) (hl : s.length < 4611686018427387904) (ha : a ≤ s.length) : ∀ (l : List Nat) (n : Nat) (tm : Tm) (k : Nat), l = s.drop (a + n) → a + n ≤ s.length → R30 s a n f tm →
    ∃ tm', evCode (evFn env3 (K + 1)) env3 175 26 (k + l.length + 21) (.loop b30) tm h = some (.exit 0, tm', h) ∧ R30 s a (n + cnt q l) f tm'
  | [], n, tm, k, hd, hn, R => by
    have hlen : s.length ≤ a + n := by
      have := congrArg List.length hd
      simp at this
      omega
    obtain ⟨tm', h1, h2⟩ := stop30 (evFn env3 (K + 1)) s a n f tm h (k + 0) R hl (.inl ⟨hlen, by omega⟩)
    refine ⟨tm', ?_, by simpa [cnt] using h2⟩
    rw [show k + ([] : List Nat).length + 21 = (k + 0 + 20) + 1 by simp, evCode, h1]
  | c :: l, n, tm, k, hd, hn, R => by
    have hlt : a + n < s.length := by
      have := congrArg List.length hd
      simp at this
      omega
    have hc : s[a + n]? = some c := by
      have : (s.drop (a + n))[0]? = some c := by rw [← hd]; rfl
      simpa using this
    have hd' : l = s.drop (a + (n + 1)) := by
      have := congrArg List.tail hd
      simpa [List.tail_drop, Nat.add_assoc] using this
    cases hb : q ↑c with
    | true =>
      obtain ⟨tm1, h1, h2⟩ := round30 (evFn env3 (K + 1)) s a n f tm h (k + l.length + 1) c R hl hlt hc (by rw [pred_call hq, hb])
      obtain ⟨tm', h3, h4⟩ := loop30 K s a f hq h hl ha l (n + 1) tm1 k hd' (by omega) h2
      refine ⟨tm', ?_, by simpa [cnt, hb, Nat.add_assoc, Nat.add_comm 1] using h4⟩
      rw [show k + (c :: l).length + 21 = (k + l.length + 1 + 20) + 1 by simp; omega, evCode, h1]
      simp only
      rw [show k + l.length + 1 + 20 = k + l.length + 21 by omega]
      exact h3
    | false =>
      obtain ⟨tm', h1, h2⟩ := stop30 (evFn env3 (K + 1)) s a n f tm h (k + l.length + 1) R hl (.inr ⟨c, hlt, hc, by rw [pred_call hq, hb]⟩)
      refine ⟨tm', ?_, by simpa [cnt, hb] using h2⟩
      rw [show k + (c :: l).length + 21 = (k + l.length + 1 + 20) + 1 by simp; omega, evCode, h1]

theorem body30 : Tryz.f175.body = some (.seq (codeAt Tryz.f175 [0]) (.seq (codeAt Tryz.f175 [1, 0]) (.seq (.block 0 (.loop b30)) (codeAt Tryz.f175 [1, 1, 1])))) := rfl
theorem run30 (s : List Nat) (a f : Nat) {q : Int → Bool} (hq : predOf f = some q) (h : H) (hl : s.length < 4611686018427387904) (ha : a ≤ s.length) :
    evFn env3 (s.length + 40) 175 [.str s, .int .i64 ↑a, .fn f [] []] h = some (.int .i64 ↑(cnt q (s.drop a)), h) := by
  have L := fun tm k R => loop30 (s.length + 38) s a f hq h hl ha (s.drop a) 0 tm k (by simp) (by simpa using ha) R
  rw [show s.length + 40 = (s.length + 39) + 1 by omega, evFn]
  simp only [e3_30, f3_30, body30]
  have hk : s.length + 39 = ((((a + 14 + (s.drop a).length + 21) + 1) + 1) + 1) + 1 := by simp; omega
  have h1 : ∃ tm1, evCode (evFn env3 (s.length + 39)) env3 175 26 (((((a + 14 + (s.drop a).length + 21) + 1) + 1) + 1)) (codeAt Tryz.f175 [0]) (setArgs 0 [.str s, .int .i64 ↑a, .fn f [] []] .e) h = some (.normal, tm1, h) ∧
      tm1.get 0 = some (.str s) ∧ tm1.get 1 = some (.int .i64 ↑a) ∧ tm1.get 2 = some (.fn f [] []) := by
    simp only [codeAt, sub, Tryz.f175]
    simp [evFn, evCode, EVT0, evSeq, evOne, evAct, evOp, opKind, evPure, evRead, evNew, evWrite, evSlice, natOf, optVal, readAt, AV.cells, wantedA, putTm, val, allVals, evBin, evInt, evStr, evAppend, evMin, nilCmp, denseFrom, sizesAre, onesIn, evPlan, recheck, H.new, H.put, fillF, fillAt, allOne, AV.one, setArgs, evRes, resOf, ofVal, ofVal0, isShift, ikBeq, MTC]
  obtain ⟨tm1, h1, i0, i1, i2⟩ := h1
  have h2 : ∃ tm2, evCode (evFn env3 (s.length + 39)) env3 175 26 ((((a + 14 + (s.drop a).length + 21) + 1) + 1)) (codeAt Tryz.f175 [1, 0]) tm1 h = some (.normal, tm2, h) ∧
      tm2.get 0 = some (.str s) ∧ tm2.get 1 = some (.int .i64 ↑a) ∧ tm2.get 2 = some (.fn f [] []) ∧ tm2.get 7 = some (.int .i64 0) := by
    simp only [codeAt, sub, Tryz.f175]
    simp [evFn, evCode, EVT0, evSeq, evOne, evAct, evOp, opKind, evPure, evRead, evNew, evWrite, evSlice, natOf, optVal, readAt, AV.cells, wantedA, putTm, val, allVals, evBin, evInt, evStr, evAppend, evMin, nilCmp, denseFrom, sizesAre, onesIn, evPlan, recheck, H.new, H.put, fillF, fillAt, allOne, AV.one, setArgs, evRes, resOf, ofVal, ofVal0, isShift, ikBeq, MTC, i0, i1, i2]
  obtain ⟨tm2, h2, j0, j1, j2, j7⟩ := h2
  obtain ⟨tm3, h3, R⟩ := L tm2 (a + 14) ⟨j0, j1, j2, by simpa using j7⟩
  have h4 : ∃ tm4, evCode (evFn env3 (s.length + 39)) env3 175 26 (((a + 14 + (s.drop a).length + 21) + 1)) (codeAt Tryz.f175 [1, 1, 1]) tm3 h = some (.ret, tm4, h) ∧ tm4.get 6 = some (.int .i64 ↑(cnt q (s.drop a))) := by
    obtain ⟨_, _, _, g7⟩ := R
    simp only [codeAt, sub, Tryz.f175]
    simp [evFn, evCode, EVT0, evSeq, evOne, evAct, evOp, opKind, evPure, evRead, evNew, evWrite, evSlice, natOf, optVal, readAt, AV.cells, wantedA, putTm, val, allVals, evBin, evInt, evStr, evAppend, evMin, nilCmp, denseFrom, sizesAre, onesIn, evPlan, recheck, H.new, H.put, fillF, fillAt, allOne, AV.one, setArgs, evRes, resOf, ofVal, ofVal0, isShift, ikBeq, MTC, g7]
  obtain ⟨tm4, h4, g6⟩ := h4
  have hall := run_seq h1 (run_seq h2 (run_seq (run_exit h3) h4))
  rw [← hk] at hall
  have hn : Tryz.f175.ntmps = 26 := rfl
  have hres : Tryz.f175.results = #[.tmp 6] := rfl
  simp only [hn, hall, hres, List.length_cons, List.length_nil]
  simp [evRes, g6, resOf, ble_dec]
end Go.Proofs.YtncccgglillmoaaGreatDoor.Lx
