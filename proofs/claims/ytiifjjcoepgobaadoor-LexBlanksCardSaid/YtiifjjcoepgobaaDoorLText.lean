/- A string: the program's. -/
import Derived.Test.YtiifjjcoepgobaaDoorLName
set_option autoImplicit false
set_option maxRecDepth 100000
set_option linter.unusedSimpArgs false
set_option linter.unusedVariables false
namespace Go.Proofs.YtiifjjcoepgobaaDoor.Env
open Go.Ev

theorem e5_21 : env5.prim 21 = none := by kernel_rfl
theorem f5_21 : env5.fns 21 = some Tryd.f21 := by kernel_rfl
/-- Does a string end there, and is it short enough? -/
def okText (s : List Nat) (e n : Nat) : Bool := match s[e]? with
  | none => false
  | some c => intBeq ↑c 34 && !ltI 40 ↑n
theorem text_run (s : List Nat) (a : Nat) (hl : s.length < 4611686018427387904) (ha : a < s.length) (k : Nat) :
    ∃ h1, evFn env5 (k + 40) 21 [.str s, .int .i64 ↑a] ⟨.e, 0⟩ =
      some (.tup [tokA 3 ((s.drop (a + 1)).take (cnt pPlain (s.drop (a + 1)))) 0 ↑a, .int .i64 ↑(cnt pPlain (s.drop (a + 1)) + 2), .bool (okText s (a + 1 + cnt pPlain (s.drop (a + 1))) (cnt pPlain (s.drop (a + 1))))], h1) := by
  have hw1 : wr .i64 (↑a + 1) = ↑(a + 1) := by have := wr_nat (n := a + 1) (by omega); simpa using this
  have c1 : ∀ k h, evFn env5 (k + 1) 30 [.str s, .int .i64 ↑(a + 1), .fn 33 [] []] h = some (.int .i64 ↑(cnt pPlain (s.drop (a + 1))), h) := fun k h => run_call k h s (a + 1) 33 rfl hl (by omega)
  have hn := cnt_le pPlain (s.drop (a + 1))
  rw [List.length_drop] at hn
  generalize cnt pPlain (s.drop (a + 1)) = n at *
  have hw : wr .i64 (↑(a + 1) + ↑n) = ↑(a + 1 + n) := by have := wr_nat (n := a + 1 + n) (by omega); simpa using this
  have hw2 : wr .i64 (↑n + 2) = ↑(n + 2) := by have := wr_nat (n := n + 2) (by omega); simpa using this
  have hle : a + 1 + n ≤ s.length := by omega
  have hlt : ltI ↑(a + 1 + n) ↑s.length = decide (a + 1 + n < s.length) := ltI_nat _ _
  generalize hm : a + 1 + n = m at *
  have hmn : m - (a + 1) = n := by omega
  have ham : a + 1 ≤ m := by omega
  generalize hn2 : n + 2 = n2 at *
  generalize ha1 : a + 1 = a1 at *
  generalize ht : (s.drop a1).take n = t at *
  rw [evFn]
  simp only [e5_21, f5_21, Tryd.f21]
  cases hc : s[m]? with
  | none =>
    have hge : s.length ≤ m := List.getElem?_eq_none_iff.1 hc
    have hlt' : ltI ↑m ↑s.length = false := by rw [hlt]; simp; exact hge
    simp [evCode, evSeq, evOne, evAct, evOp, opKind, evPure, evRead, evNew, evWrite, evSlice, natOf, optVal, readAt, AV.cells, wantedA, putTm, val, allVals, evBin, evInt, evStr, evPlan, recheck, AV.beq_refl, H.new, H.put, fillF, fillAt, allOne, AV.one, setArgs, evRes, resOf, ofVal, ofVal0, blt_dec, ble_dec, beq_dec, T.get_set_ite, T.get_e, isShift, ikBeq, c1, t5_9, t5_3, t5_33, hw1, hw, hw2, ham, hle, hmn, ht, hlt', tokA, okText, hc]
  | some c =>
    have hlt' : ltI ↑m ↑s.length = true := by rw [hlt]; simp; exact getElem?_lt hc
    cases h34 : intBeq ↑c 34 <;> cases h40 : ltI 40 ↑n <;>
      simp [evCode, evSeq, evOne, evAct, evOp, opKind, evPure, evRead, evNew, evWrite, evSlice, natOf, optVal, readAt, AV.cells, wantedA, putTm, val, allVals, evBin, evInt, evStr, evPlan, recheck, AV.beq_refl, H.new, H.put, fillF, fillAt, allOne, AV.one, setArgs, evRes, resOf, ofVal, ofVal0, blt_dec, ble_dec, beq_dec, T.get_set_ite, T.get_e, isShift, ikBeq, c1, t5_9, t5_3, t5_33, hw1, hw, hw2, ham, hle, hmn, ht, hlt', hc, h34, h40, tokA, okText]
end Go.Proofs.YtiifjjcoepgobaaDoor.Env
