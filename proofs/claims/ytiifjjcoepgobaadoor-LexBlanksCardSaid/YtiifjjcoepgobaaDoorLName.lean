/- A name, or a word: the program's. -/
import Derived.Test.YtiifjjcoepgobaaDoorLEnv4
set_option autoImplicit false
set_option maxRecDepth 100000
set_option linter.unusedSimpArgs false
set_option linter.unusedVariables false
namespace Go.Proofs.YtiifjjcoepgobaaDoor.Env
open Go.Ev

theorem p41_ok : PrimOk Tryd.prog 41 (primPure p41) := by
  refine primPure_ok env4_ok Tryd.func41 (by kernel_rfl) (by kernel_rfl) fun args v hv => ?_
  unfold p41 at hv
  split at hv
  · simp only [Option.some.injEq] at hv
    subst hv
    exact ⟨_, _, _, prefix_run _ _ _ 0, rfl, rfl⟩
  · simp at hv
noncomputable def env5 : Env := addPrim (addPrim (addPrim (addPrim (addPrim env4 16 (primPure (pK (.sl .full (wordsL.map .str))))) 34 (primPure (pK (.sl .full (signsL.map .str))))) 12 (primPure (pK (.sl .full (wordsL.map .str))))) 32 (primPure p32)) 41 (primPure p41)
theorem env5_ok : EnvOk Tryd.prog env5 := addPrim_ok (addPrim_ok (addPrim_ok (addPrim_ok (addPrim_ok env4_ok words_ok) signs_ok) rwords_ok) p32_ok) p41_ok
theorem e5_16 : env5.prim 16 = some (primPure (pK (.sl .full (wordsL.map .str)))) := by kernel_rfl
theorem e5_30 : env5.prim 30 = some (primPure p30) := by kernel_rfl
theorem e5_32 : env5.prim 32 = some (primPure p32) := by kernel_rfl
theorem e5_18 : env5.prim 18 = none := by kernel_rfl
theorem f5_18 : env5.fns 18 = some Tryd.f18 := by kernel_rfl
theorem t5_9 : env5.ty 9 = some { kind := TK.str, sz := 1, byt := 16, zero := some (AV.str []), ag := false, eqf := none } := by kernel_rfl
theorem t5_3 : env5.ty 3 = some { kind := TK.int .i64, sz := 1, byt := 8, zero := some (AV.int .i64 0), ag := false, eqf := none } := by kernel_rfl
theorem t5_33 : env5.ty 33 = some { kind := TK.st [(0, 1, false), (1, 1, false), (2, 1, false), (3, 1, false)], sz := 4, byt := 40, zero := some (AV.agg [AV.int IntKind.i64 0, AV.str [], AV.int IntKind.i64 0, AV.int IntKind.i64 0]), ag := true, eqf := some [(0, 0), (1, 1), (2, 0), (3, 0)] } := by kernel_rfl
theorem pl5_18 : env5.plan 18 3 = some [⟨1, false, []⟩, ⟨2, false, []⟩, ⟨0, true, [2]⟩, ⟨3, true, []⟩] := by kernel_rfl

theorem cnt_le (q : Int → Bool) : ∀ l : List Nat, cnt q l ≤ l.length
  | [] => Nat.le_refl _
  | a :: l => by
    simp only [cnt, List.length_cons]
    have := cnt_le q l
    cases q ↑a <;> simp <;> omega
/-- A token. -/
def tokA (kind : Int) (text : List Nat) (n : Int) (a : Int) : AV := .agg [.int .i64 kind, .str text, .int .i64 n, .int .i64 a]
theorem words_call (k : Nat) (h : H) : evFn env5 (k + 1) 16 [] h = some (.sl .full (wordsL.map .str), h) := by
  rw [evFn_prim e5_16]; simp [primPure, AV.pures, AV.forgets, pK]
theorem has_call (k : Nat) (h : H) (v : List Nat) : evFn env5 (k + 1) 32 [.sl .full (wordsL.map .str), .str v] h = some (.bool (hasF v wordsL), h) := by
  rw [evFn_prim e5_32]
  have hf : AV.forgets (wordsL.map .str) = wordsL.map .str := by rw [forgets_map, List.map_map]; rfl
  have hs : small62 wordsL.length = true := by decide
  simp [primPure, AV.pures, AV.pure, pures_strs, AV.forgets, AV.forget, hf, p32, strsOf_map, hs]
theorem run_call (k : Nat) (h : H) (s : List Nat) (a f : Nat) {q : Int → Bool} (hq : predOf f = some q) (hl : s.length < 4611686018427387904) (ha : a ≤ s.length) :
    evFn env5 (k + 1) 30 [.str s, .int .i64 ↑a, .fn f [] []] h = some (.int .i64 ↑(cnt q (s.drop a)), h) := by
  rw [evFn_prim e5_30]
  simp [primPure, AV.pures, AV.pure, AV.forgets, AV.forget, p30, hq, small62, blt_dec, ble_dec, hl, ha]

def nameKind (t : List Nat) : Int := bif hasF t wordsL then 4 else 1
theorem name_run (s : List Nat) (a : Nat) (hl : s.length < 4611686018427387904) (ha : a ≤ s.length) (k : Nat) :
    ∃ h1, evFn env5 (k + 40) 18 [.str s, .int .i64 ↑a] ⟨.e, 0⟩ =
      some (.tup [tokA (nameKind ((s.drop a).take (cnt pMore (s.drop a)))) ((s.drop a).take (cnt pMore (s.drop a))) 0 ↑a, .int .i64 ↑(cnt pMore (s.drop a)), .bool (!ltI 12 ↑(cnt pMore (s.drop a)))], h1) := by
  have c1 : ∀ k h, evFn env5 (k + 1) 30 [.str s, .int .i64 ↑a, .fn 31 [] []] h = some (.int .i64 ↑(cnt pMore (s.drop a)), h) := fun k h => run_call k h s a 31 rfl hl ha
  have hn := cnt_le pMore (s.drop a)
  rw [List.length_drop] at hn
  generalize cnt pMore (s.drop a) = n at *
  have hw : wr .i64 (↑a + ↑n) = ↑(a + n) := by have := wr_nat (n := a + n) (by omega); simpa using this
  have hle : a + n ≤ s.length := by omega
  generalize hm : a + n = m at *
  have hmn : m - a = n := by omega
  have ham : a ≤ m := by omega
  generalize ht : (s.drop a).take n = t at *
  rw [evFn]
  simp only [e5_18, f5_18, Tryd.f18]
  cases hh : hasF t wordsL <;>
    simp [evCode, evSeq, evOne, evAct, evOp, opKind, evPure, evRead, evNew, evWrite, evSlice, natOf, optVal, readAt, AV.cells, wantedA, putTm, val, allVals, evBin, evInt, evStr, evPlan, recheck, AV.beq_refl, H.new, H.put, fillF, fillAt, allOne, AV.one, setArgs, evRes, resOf, ofVal, ofVal0, blt_dec, ble_dec, beq_dec, T.get_set_ite, T.get_e, isShift, ikBeq, c1, words_call, has_call, t5_9, t5_3, t5_33, pl5_18, hw, ham, hle, hmn, ht, hh, tokA, nameKind]
end Go.Proofs.YtiifjjcoepgobaaDoor.Env
