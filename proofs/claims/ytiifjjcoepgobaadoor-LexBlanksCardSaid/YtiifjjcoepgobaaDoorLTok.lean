/- The token at a place: the program's. -/
import Derived.Test.YtiifjjcoepgobaaDoorLNum
set_option autoImplicit false
set_option maxRecDepth 100000
set_option linter.unusedSimpArgs false
set_option linter.unusedVariables false
namespace Go.Proofs.YtiifjjcoepgobaaDoor.Env
open Go.Ev

def nameRes (s : List Nat) (a : Nat) : AV :=
  .tup [tokA (nameKind ((s.drop a).take (cnt pMore (s.drop a)))) ((s.drop a).take (cnt pMore (s.drop a))) 0 ↑a, .int .i64 ↑(cnt pMore (s.drop a)), .bool (!ltI 12 ↑(cnt pMore (s.drop a)))]
def textRes (s : List Nat) (a : Nat) : AV :=
  .tup [tokA 3 ((s.drop (a + 1)).take (cnt pPlain (s.drop (a + 1)))) 0 ↑a, .int .i64 ↑(cnt pPlain (s.drop (a + 1)) + 2), .bool (okText s (a + 1 + cnt pPlain (s.drop (a + 1))) (cnt pPlain (s.drop (a + 1))))]
/-- A function of a text and a place in it. -/
def pSA (r : List Nat → Nat → AV) : List AV → Option AV
  | [.str s, .int .i64 (.ofNat a)] => bif Nat.blt s.length 140737488355328 && Nat.blt a s.length then some (r s a) else none
  | _ => none
theorem pSA_ok {E : Env} (hE : EnvOk Tryd.prog E) {f : Nat} {fn : Func} {r : List Nat → Nat → AV} (hfn : Tryd.prog.funcs[f]? = some fn) (hnm : (fn.name == "runtime.NumGoroutine") = false) (hb : fn.body.isNone = false)
    (hr : ∀ (s : List Nat) (a : Nat), s.length < 140737488355328 → a < s.length → ∃ k h1, evFn E k f [.str s, .int .i64 ↑a] ⟨.e, 0⟩ = some (r s a, h1)) (hp : ∀ s a, (r s a).pure = true ∧ (r s a).forget = r s a) : PrimOk Tryd.prog f (primPure (pSA r)) := by
  refine primPure_ok hE hfn hnm hb fun args v hv => ?_
  unfold pSA at hv
  split at hv
  · rename_i s a
    cases hc : (Nat.blt s.length 140737488355328 && Nat.blt a s.length) with
    | false => rw [hc] at hv; simp at hv
    | true =>
      rw [hc] at hv
      simp only [cond_true, Option.some.injEq] at hv
      subst hv
      simp only [Bool.and_eq_true] at hc
      obtain ⟨k, h1, he⟩ := hr s a (blt_nat.1 hc.1) (blt_nat.1 hc.2)
      exact ⟨k, _, h1, he, (hp s a).1, (hp s a).2⟩
  · simp at hv
theorem p18_ok : PrimOk Tryd.prog 18 (primPure (pSA nameRes)) := pSA_ok env5_ok Tryd.func18 (by kernel_rfl) (by kernel_rfl) (fun s a h1 h2 => ⟨40, name_run s a (by omega) (by omega) 0⟩) (fun s a => ⟨rfl, rfl⟩)
theorem p21_ok : PrimOk Tryd.prog 21 (primPure (pSA textRes)) := pSA_ok env5_ok Tryd.func21 (by kernel_rfl) (by kernel_rfl) (fun s a h1 h2 => ⟨40, text_run s a (by omega) h2 0⟩) (fun s a => ⟨rfl, rfl⟩)
theorem p20_ok : PrimOk Tryd.prog 20 (primPure (pSA numRes)) := pSA_ok env5_ok Tryd.func20 (by kernel_rfl) (by kernel_rfl) (fun s a h1 h2 => number_run s a h1 h2) (fun s a => by unfold numRes; cases numBad s a (cnt pDigit (s.drop a)) <;> exact ⟨rfl, rfl⟩)
theorem p22_ok : PrimOk Tryd.prog 22 (primPure (pSA signRes)) := pSA_ok env5_ok Tryd.func22 (by kernel_rfl) (by kernel_rfl) (fun s a h1 h2 => ⟨100, sign_run s a (by omega)⟩) (fun s a => by unfold signRes; cases firstF (s.drop a) signsL <;> exact ⟨rfl, rfl⟩)
noncomputable def env6 : Env := addPrim (addPrim (addPrim (addPrim env5 18 (primPure (pSA nameRes))) 21 (primPure (pSA textRes))) 20 (primPure (pSA numRes))) 22 (primPure (pSA signRes))
theorem env6_ok : EnvOk Tryd.prog env6 := addPrim_ok (addPrim_ok (addPrim_ok (addPrim_ok env5_ok p18_ok) p21_ok) p20_ok) p22_ok
theorem e6_13 : env6.prim 13 = none := by kernel_rfl
theorem f6_13 : env6.fns 13 = some Tryd.f13 := by kernel_rfl
theorem e6_17 : env6.prim 17 = some (primPure (pI pLetter)) := by kernel_rfl
theorem e6_19 : env6.prim 19 = some (primPure (pI pDigit)) := by kernel_rfl
theorem e6_18 : env6.prim 18 = some (primPure (pSA nameRes)) := by kernel_rfl
theorem e6_20 : env6.prim 20 = some (primPure (pSA numRes)) := by kernel_rfl
theorem e6_21 : env6.prim 21 = some (primPure (pSA textRes)) := by kernel_rfl
theorem e6_22 : env6.prim 22 = some (primPure (pSA signRes)) := by kernel_rfl
theorem t6_9 : env6.ty 9 = some { kind := TK.str, sz := 1, byt := 16, zero := some (AV.str []), ag := false, eqf := none } := by kernel_rfl
theorem t6_33 : env6.ty 33 = some { kind := TK.st [(0, 1, false), (1, 1, false), (2, 1, false), (3, 1, false)], sz := 4, byt := 40, zero := some (AV.agg [AV.int IntKind.i64 0, AV.str [], AV.int IntKind.i64 0, AV.int IntKind.i64 0]), ag := true, eqf := some [(0, 0), (1, 1), (2, 0), (3, 0)] } := by kernel_rfl
theorem pSA_call {E : Env} {f : Nat} {r : List Nat → Nat → AV} (he : E.prim f = some (primPure (pSA r))) (k : Nat) (h : H) (s : List Nat) (a : Nat) (hl : s.length < 140737488355328) (ha : a < s.length) : evFn E (k + 1) f [.str s, .int .i64 ↑a] h = some (r s a, h) := by
  rw [evFn_prim he]
  simp [primPure, AV.pures, AV.pure, AV.forgets, AV.forget, pSA, blt_dec, hl, ha]
theorem pI_call {E : Env} {f : Nat} {q : Int → Bool} (he : E.prim f = some (primPure (pI q))) (k : Nat) (h : H) (c : Int) : evFn E (k + 1) f [.int .u8 c] h = some (.bool (q c), h) := by
  rw [evFn_prim he]
  simp [primPure, AV.pures, AV.pure, AV.forgets, AV.forget, pI]
def isTok (v : AV) : Prop := ∃ (x1 : Int) (x2 : List Nat) (x3 x4 n : Int) (b : Bool), v = .tup [.agg [.int .i64 x1, .str x2, .int .i64 x3, .int .i64 x4], .int .i64 n, .bool b]
theorem nameRes_tok (s : List Nat) (a : Nat) : isTok (nameRes s a) := ⟨_, _, _, _, _, _, rfl⟩
theorem textRes_tok (s : List Nat) (a : Nat) : isTok (textRes s a) := ⟨_, _, _, _, _, _, rfl⟩
theorem numRes_tok (s : List Nat) (a : Nat) : isTok (numRes s a) := by unfold numRes; cases numBad s a (cnt pDigit (s.drop a)) <;> exact ⟨_, _, _, _, _, _, rfl⟩
theorem signRes_tok (s : List Nat) (a : Nat) : isTok (signRes s a) := by unfold signRes; cases firstF (s.drop a) signsL <;> exact ⟨_, _, _, _, _, _, rfl⟩
def tokRes (s : List Nat) (a : Nat) : AV := match s[a]? with
  | none => .tup []
  | some c => bif pLetter ↑c then nameRes s a else bif pDigit ↑c then numRes s a else bif intBeq ↑c 34 then textRes s a else signRes s a
theorem token_run (s : List Nat) (a : Nat) (hl : s.length < 140737488355328) (ha : a < s.length) (k : Nat) : ∃ h1, evFn env6 (k + 40) 13 [.str s, .int .i64 ↑a] ⟨.e, 0⟩ = some (tokRes s a, h1) := by
  obtain ⟨c, hc⟩ : ∃ c, s[a]? = some c := ⟨_, List.getElem?_eq_getElem ha⟩
  have cn := fun k h => pSA_call e6_18 k h s a hl ha
  have cu := fun k h => pSA_call e6_20 k h s a hl ha
  have ct := fun k h => pSA_call e6_21 k h s a hl ha
  have cs := fun k h => pSA_call e6_22 k h s a hl ha
  have cl := fun k h => pI_call e6_17 k h ↑c
  have cd := fun k h => pI_call e6_19 k h ↑c
  unfold tokRes
  rw [hc]
  simp only
  rw [evFn]
  simp only [e6_13, f6_13, Tryd.f13]
  cases h1 : pLetter ↑c with
  | true =>
    obtain ⟨x1, x2, x3, x4, n, b, hx⟩ := nameRes_tok s a
    rw [hx] at cn ⊢
    simp [evCode, evSeq, evOne, evAct, evOp, opKind, evPure, evRead, evNew, evWrite, evSlice, natOf, optVal, readAt, AV.cells, wantedA, putTm, val, allVals, evBin, evInt, evStr, evPlan, recheck, AV.beq_refl, H.new, H.put, fillF, fillAt, allOne, AV.one, setArgs, evRes, resOf, ofVal, ofVal0, blt_dec, ble_dec, beq_dec, T.get_set_ite, T.get_e, isShift, ikBeq, t6_9, t6_33, hc, cl, cn, h1]
  | false =>
    cases h2 : pDigit ↑c with
    | true =>
      obtain ⟨x1, x2, x3, x4, n, b, hx⟩ := numRes_tok s a
      rw [hx] at cu ⊢
      simp [evCode, evSeq, evOne, evAct, evOp, opKind, evPure, evRead, evNew, evWrite, evSlice, natOf, optVal, readAt, AV.cells, wantedA, putTm, val, allVals, evBin, evInt, evStr, evPlan, recheck, AV.beq_refl, H.new, H.put, fillF, fillAt, allOne, AV.one, setArgs, evRes, resOf, ofVal, ofVal0, blt_dec, ble_dec, beq_dec, T.get_set_ite, T.get_e, isShift, ikBeq, t6_9, t6_33, hc, cl, cd, cu, h1, h2]
    | false =>
      cases h3 : intBeq ↑c 34 with
      | true =>
        obtain ⟨x1, x2, x3, x4, n, b, hx⟩ := textRes_tok s a
        rw [hx] at ct ⊢
        simp [evCode, evSeq, evOne, evAct, evOp, opKind, evPure, evRead, evNew, evWrite, evSlice, natOf, optVal, readAt, AV.cells, wantedA, putTm, val, allVals, evBin, evInt, evStr, evPlan, recheck, AV.beq_refl, H.new, H.put, fillF, fillAt, allOne, AV.one, setArgs, evRes, resOf, ofVal, ofVal0, blt_dec, ble_dec, beq_dec, T.get_set_ite, T.get_e, isShift, ikBeq, t6_9, t6_33, hc, cl, cd, ct, h1, h2, h3]
      | false =>
        obtain ⟨x1, x2, x3, x4, n, b, hx⟩ := signRes_tok s a
        rw [hx] at cs ⊢
        simp [evCode, evSeq, evOne, evAct, evOp, opKind, evPure, evRead, evNew, evWrite, evSlice, natOf, optVal, readAt, AV.cells, wantedA, putTm, val, allVals, evBin, evInt, evStr, evPlan, recheck, AV.beq_refl, H.new, H.put, fillF, fillAt, allOne, AV.one, setArgs, evRes, resOf, ofVal, ofVal0, blt_dec, ble_dec, beq_dec, T.get_set_ite, T.get_e, isShift, ikBeq, t6_9, t6_33, hc, cl, cd, cs, h1, h2, h3]
end Go.Proofs.YtiifjjcoepgobaaDoor.Env
