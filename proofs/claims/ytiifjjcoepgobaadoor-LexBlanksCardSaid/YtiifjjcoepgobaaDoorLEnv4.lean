/- The lexer's helpers as primitives. -/
import Derived.Test.YtiifjjcoepgobaaDoorLWordF
set_option autoImplicit false
set_option maxRecDepth 100000
set_option linter.unusedSimpArgs false
set_option linter.unusedVariables false
namespace Go.Proofs.YtiifjjcoepgobaaDoor.Env
open Go.Ev

noncomputable def env4 : Env := addPrim (addPrim env3 30 (primPure p30)) 40 (primPure p40)
theorem env4_ok : EnvOk Tryd.prog env4 := addPrim_ok (addPrim_ok env3_ok p30_ok) p40_ok
theorem e4_40 : env4.prim 40 = some (primPure p40) := by kernel_rfl
theorem e4_32 : env4.prim 32 = none := by kernel_rfl
theorem f4_32 : env4.fns 32 = some Tryd.f32 := by kernel_rfl
theorem e4_41 : env4.prim 41 = none := by kernel_rfl
theorem f4_41 : env4.fns 41 = some Tryd.f41 := by kernel_rfl
theorem e4_35 : env4.prim 35 = none := by kernel_rfl
theorem f4_35 : env4.fns 35 = some Tryd.f35 := by kernel_rfl
theorem t4_9 : env4.ty 9 = some { kind := TK.str, sz := 1, byt := 16, zero := some (AV.str []), ag := false, eqf := none } := by kernel_rfl

/-- A call that is closed. -/
def pK (v : AV) : List AV → Option AV
  | [] => some v
  | _ => none
theorem pK_ok {E : Env} (hE : EnvOk Tryd.prog E) {f k : Nat} {fn : Func} {v : AV} (hfn : Tryd.prog.funcs[f]? = some fn) (hnm : (fn.name == "runtime.NumGoroutine") = false) (hb : fn.body.isNone = false)
    (he : (evFn E k f [] ⟨.e, 0⟩).map (fun r => (r.1.forget, r.1.pure)) = some (v, true)) : PrimOk Tryd.prog f (primPure (pK v)) := by
  refine primPure_ok hE hfn hnm hb fun args u hv => ?_
  unfold pK at hv
  split at hv
  · simp only [Option.some.injEq] at hv
    subst hv
    obtain ⟨r, h1, h2⟩ := Option.map_eq_some_iff.1 he
    simp only [Prod.mk.injEq] at h2
    exact ⟨k, r.1, r.2, h1, h2.2, h2.1⟩
  · simp at hv
theorem words_ok : PrimOk Tryd.prog 16 (primPure (pK (.sl .full (wordsL.map .str)))) := pK_ok (k := 20) env4_ok Tryd.func16 (by kernel_rfl) (by kernel_rfl) (by kernel_rfl)
theorem signs_ok : PrimOk Tryd.prog 34 (primPure (pK (.sl .full (signsL.map .str)))) := pK_ok (k := 20) env4_ok Tryd.func34 (by kernel_rfl) (by kernel_rfl) (by kernel_rfl)
theorem rwords_ok : PrimOk Tryd.prog 12 (primPure (pK (.sl .full (wordsL.map .str)))) := pK_ok (k := 20) env4_ok Tryd.func12 (by kernel_rfl) (by kernel_rfl) (by kernel_rfl)

/-- Is a text among others? -/
def hasF (v : List Nat) (ws : List (List Nat)) : Bool := !ltI (idxF v ws 0) 0
def p32 : List AV → Option AV
  | [.sl _ els, .str v] => match strsOf els with
    | none => none
    | some ws => bif small62 ws.length then some (.bool (hasF v ws)) else none
  | _ => none
theorem contains_run (o : Own) (ws : List (List Nat)) (v : List Nat) (hl : small62 ws.length = true) (hp : AV.pures (ws.map .str) = true) (k : Nat) :
    evFn env4 (k + 30) 32 [.sl o (ws.map .str), .str v] ⟨.e, 0⟩ = some (.bool (hasF v ws), ⟨.e, 0⟩) := by
  have hc : ∀ k, evFn env4 (k + 1) 40 [.sl o (ws.map .str), .str v] ⟨.e, 0⟩ = some (.int .i64 (idxF v ws 0), ⟨.e, 0⟩) := fun k => by
    rw [evFn_prim e4_40]
    have hf : AV.forgets (ws.map .str) = ws.map .str := by rw [forgets_map, List.map_map]; rfl
    simp [primPure, AV.pures, AV.pure, hp, AV.forgets, AV.forget, hf, p40, strsOf_map, hl]
  rw [evFn]
  simp [e4_32, f4_32, Tryd.f32, evCode, evSeq, evOne, evAct, evOp, opKind, evPure, evRead, evNew, evWrite, evSlice, natOf, optVal, readAt, AV.cells, wantedA, putTm, val, allVals, evBin, evInt, evStr, setArgs, evRes, resOf, ofVal, ofVal0, blt_dec, ble_dec, beq_dec, T.get_set_ite, T.get_e, isShift, ikBeq, hc, hasF]
theorem pures_strs : ∀ ws : List (List Nat), AV.pures (ws.map .str) = true
  | [] => rfl
  | w :: ws => by simp [AV.pures, AV.pure, pures_strs ws]
theorem p32_ok : PrimOk Tryd.prog 32 (primPure p32) := by
  refine primPure_ok env4_ok Tryd.func32 (by kernel_rfl) (by kernel_rfl) fun args v hv => ?_
  unfold p32 at hv
  split at hv
  · rename_i o els u
    cases hq : strsOf els with
    | none => rw [hq] at hv; simp at hv
    | some ws =>
      rw [hq] at hv
      simp only at hv
      cases hc : small62 ws.length with
      | false => rw [hc] at hv; simp at hv
      | true =>
        rw [hc] at hv
        simp only [cond_true, Option.some.injEq] at hv
        subst hv
        have := strsOf_some hq
        subst this
        exact ⟨_, _, _, contains_run o ws u hc (pures_strs ws) 0, rfl, rfl⟩
  · simp at hv

/-- Does a text begin with another one? -/
def preF (s p : List Nat) : Bool := !ltI ↑s.length ↑p.length && natsBeq (s.take p.length) p
def p41 : List AV → Option AV
  | [.str s, .str p] => some (.bool (preF s p))
  | _ => none
theorem prefix_run (s p : List Nat) (h : H) (k : Nat) : evFn env4 (k + 30) 41 [.str s, .str p] h = some (.bool (preF s p), h) := by
  rw [evFn]
  simp [e4_41, f4_41, Tryd.f41, evCode, evSeq, evOne, evAct, evOp, opKind, evPure, evRead, evNew, evWrite, evSlice, natOf, optVal, readAt, AV.cells, wantedA, putTm, val, allVals, evBin, evInt, evStr, setArgs, evRes, resOf, ofVal, ofVal0, blt_dec, ble_dec, beq_dec, T.get_set_ite, T.get_e, isShift, ikBeq, t4_9]
  cases h1 : ltI ↑s.length ↑p.length with
  | true => simp [evCode, evSeq, evOne, evAct, evOp, opKind, evPure, evRead, evNew, evWrite, evSlice, natOf, optVal, readAt, AV.cells, wantedA, putTm, val, allVals, evBin, evInt, evStr, setArgs, evRes, resOf, ofVal, ofVal0, blt_dec, ble_dec, beq_dec, T.get_set_ite, T.get_e, isShift, ikBeq, preF, h1, t4_9]
  | false =>
    have hle : p.length ≤ s.length := by rw [ltI_nat] at h1; simpa using h1
    simp [evCode, evSeq, evOne, evAct, evOp, opKind, evPure, evRead, evNew, evWrite, evSlice, natOf, optVal, readAt, AV.cells, wantedA, putTm, val, allVals, evBin, evInt, evStr, setArgs, evRes, resOf, ofVal, ofVal0, blt_dec, ble_dec, beq_dec, T.get_set_ite, T.get_e, isShift, ikBeq, preF, h1, t4_9, hle]
end Go.Proofs.YtiifjjcoepgobaaDoor.Env
