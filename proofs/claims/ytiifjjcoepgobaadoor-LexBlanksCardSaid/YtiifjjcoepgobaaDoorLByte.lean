/- What the lexers ask of one byte. -/
import Derived.Test.YtiifjjcoepgobaaDoorLKnown
import Derived.Test.YtiifjjcoepgobaaDoorEvX
set_option autoImplicit false
set_option maxRecDepth 100000
set_option linter.unusedSimpArgs false
set_option linter.unusedVariables false
namespace Go.Proofs.YtiifjjcoepgobaaDoor.Env
open Go.Ev
def pLetter (c : Int) : Bool := !ltI c 97 && !ltI 122 c
def pDigit (c : Int) : Bool := !ltI c 48 && !ltI 57 c
def pMore (c : Int) : Bool := pLetter c || (pDigit c || (intBeq c 95 || intBeq c 39))
def pPlain (c : Int) : Bool := !ltI c 32 && (!ltI 126 c && !intBeq c 34)
theorem fn17 : env2.fns 17 = some Tryd.f17 := by kernel_rfl
theorem pr17 : env2.prim 17 = none := by kernel_rfl
theorem fn19 : env2.fns 19 = some Tryd.f19 := by kernel_rfl
theorem pr19 : env2.prim 19 = none := by kernel_rfl
theorem fn31 : env2.fns 31 = some Tryd.f31 := by kernel_rfl
theorem pr31 : env2.prim 31 = none := by kernel_rfl
theorem fn33 : env2.fns 33 = some Tryd.f33 := by kernel_rfl
theorem pr33 : env2.prim 33 = none := by kernel_rfl
theorem fn23 : env2.fns 23 = some Tryd.f23 := by kernel_rfl
theorem pr23 : env2.prim 23 = none := by kernel_rfl
theorem fn25 : env2.fns 25 = some Tryd.f25 := by kernel_rfl
theorem pr25 : env2.prim 25 = none := by kernel_rfl
theorem ty9 : env2.ty 9 = some { kind := TK.str, sz := 1, byt := 16, zero := some (AV.str []), ag := false, eqf := none } := by kernel_rfl

theorem isLetter_run (c : Int) (h : H) (k : Nat) : evFn env2 (k + 12) 17 [.int .u8 c] h = some (.bool (pLetter c), h) := by
  simp [pr17, fn17, Tryd.f17, evFn, evCode, evSeq, evOne, evAct, evOp, opKind, evPure, evRead, evNew, evWrite, evSlice, natOf, optVal, readAt, AV.cells, wantedA, putTm, val, allVals, evBin, evInt, evStr, setArgs, evRes, resOf, ofVal, ofVal0, blt_dec, ble_dec, beq_dec, T.get_set_ite, T.get_e, isShift, ikBeq]
  cases h1 : ltI c 97 <;> cases h2 : ltI 122 c <;> simp [evFn, evCode, evSeq, evOne, evAct, evOp, opKind, evPure, evRead, evNew, evWrite, evSlice, natOf, optVal, readAt, AV.cells, wantedA, putTm, val, allVals, evBin, evInt, evStr, setArgs, evRes, resOf, ofVal, ofVal0, blt_dec, ble_dec, beq_dec, T.get_set_ite, T.get_e, isShift, ikBeq, pLetter, h1, h2]
theorem isDigit_run (c : Int) (h : H) (k : Nat) : evFn env2 (k + 12) 19 [.int .u8 c] h = some (.bool (pDigit c), h) := by
  simp [pr19, fn19, Tryd.f19, evFn, evCode, evSeq, evOne, evAct, evOp, opKind, evPure, evRead, evNew, evWrite, evSlice, natOf, optVal, readAt, AV.cells, wantedA, putTm, val, allVals, evBin, evInt, evStr, setArgs, evRes, resOf, ofVal, ofVal0, blt_dec, ble_dec, beq_dec, T.get_set_ite, T.get_e, isShift, ikBeq]
  cases h1 : ltI c 48 <;> cases h2 : ltI 57 c <;> simp [evFn, evCode, evSeq, evOne, evAct, evOp, opKind, evPure, evRead, evNew, evWrite, evSlice, natOf, optVal, readAt, AV.cells, wantedA, putTm, val, allVals, evBin, evInt, evStr, setArgs, evRes, resOf, ofVal, ofVal0, blt_dec, ble_dec, beq_dec, T.get_set_ite, T.get_e, isShift, ikBeq, pDigit, h1, h2]
theorem small_run (c : Int) (h : H) (k : Nat) : evFn env2 (k + 12) 23 [.int .u8 c] h = some (.bool (pLetter c), h) := by
  simp [pr23, fn23, Tryd.f23, evFn, evCode, evSeq, evOne, evAct, evOp, opKind, evPure, evRead, evNew, evWrite, evSlice, natOf, optVal, readAt, AV.cells, wantedA, putTm, val, allVals, evBin, evInt, evStr, setArgs, evRes, resOf, ofVal, ofVal0, blt_dec, ble_dec, beq_dec, T.get_set_ite, T.get_e, isShift, ikBeq]
  cases h1 : ltI c 97 <;> cases h2 : ltI 122 c <;> simp [evFn, evCode, evSeq, evOne, evAct, evOp, opKind, evPure, evRead, evNew, evWrite, evSlice, natOf, optVal, readAt, AV.cells, wantedA, putTm, val, allVals, evBin, evInt, evStr, setArgs, evRes, resOf, ofVal, ofVal0, blt_dec, ble_dec, beq_dec, T.get_set_ite, T.get_e, isShift, ikBeq, pLetter, h1, h2]
theorem digit_run (c : Int) (h : H) (k : Nat) : evFn env2 (k + 12) 25 [.int .u8 c] h = some (.bool (pDigit c), h) := by
  simp [pr25, fn25, Tryd.f25, evFn, evCode, evSeq, evOne, evAct, evOp, opKind, evPure, evRead, evNew, evWrite, evSlice, natOf, optVal, readAt, AV.cells, wantedA, putTm, val, allVals, evBin, evInt, evStr, setArgs, evRes, resOf, ofVal, ofVal0, blt_dec, ble_dec, beq_dec, T.get_set_ite, T.get_e, isShift, ikBeq]
  cases h1 : ltI c 48 <;> cases h2 : ltI 57 c <;> simp [evFn, evCode, evSeq, evOne, evAct, evOp, opKind, evPure, evRead, evNew, evWrite, evSlice, natOf, optVal, readAt, AV.cells, wantedA, putTm, val, allVals, evBin, evInt, evStr, setArgs, evRes, resOf, ofVal, ofVal0, blt_dec, ble_dec, beq_dec, T.get_set_ite, T.get_e, isShift, ikBeq, pDigit, h1, h2]
theorem isPlain_run (c : Int) (h : H) (k : Nat) : evFn env2 (k + 12) 33 [.int .u8 c] h = some (.bool (pPlain c), h) := by
  simp [pr33, fn33, Tryd.f33, evFn, evCode, evSeq, evOne, evAct, evOp, opKind, evPure, evRead, evNew, evWrite, evSlice, natOf, optVal, readAt, AV.cells, wantedA, putTm, val, allVals, evBin, evInt, evStr, setArgs, evRes, resOf, ofVal, ofVal0, blt_dec, ble_dec, beq_dec, T.get_set_ite, T.get_e, isShift, ikBeq]
  cases h1 : ltI c 32 <;> cases h2 : ltI 126 c <;> cases h3 : intBeq c 34 <;> simp [evFn, evCode, evSeq, evOne, evAct, evOp, opKind, evPure, evRead, evNew, evWrite, evSlice, natOf, optVal, readAt, AV.cells, wantedA, putTm, val, allVals, evBin, evInt, evStr, setArgs, evRes, resOf, ofVal, ofVal0, blt_dec, ble_dec, beq_dec, T.get_set_ite, T.get_e, isShift, ikBeq, pPlain, h1, h2, h3]
theorem isMore_run (c : Int) (h : H) (k : Nat) : evFn env2 (k + 24) 31 [.int .u8 c] h = some (.bool (pMore c), h) := by
  have i1 := fun k => isLetter_run c h k
  have i2 := fun k => isDigit_run c h k
  rw [evFn]
  simp [pr31, fn31, Tryd.f31, evCode, evSeq, evOne, evAct, evOp, opKind, evPure, evRead, evNew, evWrite, evSlice, natOf, optVal, readAt, AV.cells, wantedA, putTm, val, allVals, evBin, evInt, evStr, setArgs, evRes, resOf, ofVal, ofVal0, blt_dec, ble_dec, beq_dec, T.get_set_ite, T.get_e, isShift, ikBeq, i1, i2]
  cases h1 : pLetter c <;> cases h2 : pDigit c <;> cases h3 : intBeq c 95 <;> cases h4 : intBeq c 39 <;> simp [evCode, evSeq, evOne, evAct, evOp, opKind, evPure, evRead, evNew, evWrite, evSlice, natOf, optVal, readAt, AV.cells, wantedA, putTm, val, allVals, evBin, evInt, evStr, setArgs, evRes, resOf, ofVal, ofVal0, blt_dec, ble_dec, beq_dec, T.get_set_ite, T.get_e, isShift, ikBeq, pMore, h1, h2, h3, h4, i1, i2]
end Go.Proofs.YtiifjjcoepgobaaDoor.Env
