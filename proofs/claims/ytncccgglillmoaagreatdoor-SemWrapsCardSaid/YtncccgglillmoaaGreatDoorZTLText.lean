/- Is a text among others: the library's look, by a loop. -/
import Derived.Test.YtncccgglillmoaaGreatDoorZTLRun
set_option autoImplicit false
set_option maxRecDepth 100000
set_option linter.unusedSimpArgs false
set_option linter.unusedVariables false
set_option linter.unusedSectionVars false
namespace Go.Proofs.YtncccgglillmoaaGreatDoor.Lx
open Go.Ev Go.Proofs.YtncccgglillmoaaGreatDoor.Env

theorem e3_40 : env3.prim 195 = none := by kernel_rfl
theorem f3_40 : env3.fns 195 = some Tryz.f195 := by kernel_rfl
theorem e3_32 : env3.prim 177 = none := by kernel_rfl
theorem f3_32 : env3.fns 177 = some Tryz.f177 := by kernel_rfl
theorem t3_36 : env3.ty 22 = some { kind := TK.sl 9, sz := 1, byt := 24, zero := some (AV.sl Own.full []), ag := false, eqf := none } := by kernel_rfl

/-- Where a text is among others, from a place on; -1: nowhere. -/
def idxF (v : List Nat) : List (List Nat) → Nat → Int
  | [], _ => -1
  | w :: l, i => bif natsBeq v w then ↑i else idxF v l (i + 1)

noncomputable def b40 : Code := loopOf Tryz.f195 0
structure R40 (o : Own) (ws : List (List Nat)) (v : List Nat) (i : Nat) (tm : Tm) : Prop where
  g0 : tm.get 0 = some (.sl o (ws.map .str))
  g1 : tm.get 1 = some (.str v)
  g7 : tm.get 7 = some (.int .i64 ↑ws.length)
  g8 : tm.get 8 = some (.int .i64 ↑i)
section
variable (call : CallF) (o : Own) (ws : List (List Nat)) (v : List Nat) (i : Nat) (tm : Tm) (h : H) (k : Nat)
theorem miss40 (R : R40 o ws v i tm) (hl : ws.length < 4611686018427387904) (w : List Nat) (hw : ws[i]? = some w) (hne : natsBeq v w = false) :
    ∃ tm', evCode call env3 195 19 (k + 20) b40 tm h = some (.normal, tm', h) ∧ R40 o ws v (i + 1) tm' := by
  obtain ⟨h0, h1, h7, h8⟩ := R
  have hil := getElem?_lt hw
  have hw2 : wr .i64 (↑i + 1) = ↑(i + 1) := by have := wr_nat (n := i + 1) (by omega); simpa using this
  have hlt' : ltI ↑i ↑ws.length = true := by rw [ltI_nat]; simp [hil]
  generalize hm' : i + 1 = m' at *
  have fin : ∀ tm', R40 o ws v m' tm' ↔ (tm'.get 0 = some (.sl o (ws.map .str)) ∧ tm'.get 1 = some (.str v) ∧ tm'.get 7 = some (.int .i64 ↑ws.length) ∧ tm'.get 8 = some (.int .i64 ↑m')) := fun tm' => ⟨fun r => ⟨r.g0, r.g1, r.g7, r.g8⟩, fun r => ⟨r.1, r.2.1, r.2.2.1, r.2.2.2⟩⟩
  simp only [b40, loopOf, Tryz.f195, loops, List.nil_append, List.append_nil, List.cons_append]
  simp [evFn, evCode, EVT0, evSeq, evOne, evAct, evOp, opKind, evPure, evRead, evNew, evWrite, evSlice, natOf, optVal, readAt, AV.cells, wantedA, putTm, val, allVals, evBin, evInt, evStr, evAppend, evMin, nilCmp, denseFrom, sizesAre, onesIn, evPlan, recheck, H.new, H.put, fillF, fillAt, allOne, AV.one, setArgs, evRes, resOf, ofVal, ofVal0, isShift, ikBeq, MTC, h0, h1, h7, h8, t3_9, t3_36, hw2, hlt', hw, hne, fin]
theorem hit40 (R : R40 o ws v i tm) (hl : ws.length < 4611686018427387904) (w : List Nat) (hw : ws[i]? = some w) (heq : natsBeq v w = true) :
    ∃ tm', evCode call env3 195 19 (k + 20) b40 tm h = some (.ret, tm', h) ∧ tm'.get 4 = some (.int .i64 ↑i) := by
  obtain ⟨h0, h1, h7, h8⟩ := R
  have hil := getElem?_lt hw
  have hlt' : ltI ↑i ↑ws.length = true := by rw [ltI_nat]; simp [hil]
  simp only [b40, loopOf, Tryz.f195, loops, List.nil_append, List.append_nil, List.cons_append]
  simp [evFn, evCode, EVT0, evSeq, evOne, evAct, evOp, opKind, evPure, evRead, evNew, evWrite, evSlice, natOf, optVal, readAt, AV.cells, wantedA, putTm, val, allVals, evBin, evInt, evStr, evAppend, evMin, nilCmp, denseFrom, sizesAre, onesIn, evPlan, recheck, H.new, H.put, fillF, fillAt, allOne, AV.one, setArgs, evRes, resOf, ofVal, ofVal0, isShift, ikBeq, MTC, h0, h1, h7, h8, t3_9, t3_36, hlt', hw, heq]
theorem stop40 (R : R40 o ws v i tm) (hi : i = ws.length) : ∃ tm', evCode call env3 195 19 (k + 20) b40 tm h = some (.exit 0, tm', h) := by
  obtain ⟨h0, h1, h7, h8⟩ := R
  have hlt' : ltI ↑i ↑ws.length = false := by rw [ltI_nat]; simp [hi]
  simp only [b40, loopOf, Tryz.f195, loops, List.nil_append, List.append_nil, List.cons_append]
  simp [evFn, evCode, EVT0, evSeq, evOne, evAct, evOp, opKind, evPure, evRead, evNew, evWrite, evSlice, natOf, optVal, readAt, AV.cells, wantedA, putTm, val, allVals, evBin, evInt, evStr, evAppend, evMin, nilCmp, denseFrom, sizesAre, onesIn, evPlan, recheck, H.new, H.put, fillF, fillAt, allOne, AV.one, setArgs, evRes, resOf, ofVal, ofVal0, isShift, ikBeq, MTC, h0, h1, h7, h8, t3_9, t3_36, hlt']
end
theorem loop40 (call : CallF) (o : Own) (ws : List (List Nat)) (v : List Nat) (h : H) (hl : ws.length < 4611686018427387904) : ∀ (l : List (List Nat)) (i : Nat) (tm : Tm) (k : Nat), l = ws.drop i → i ≤ ws.length → R40 o ws v i tm →
    ∃ tm', (evCode call env3 195 19 (k + l.length + 21) (.loop b40) tm h = some (.ret, tm', h) ∧ tm'.get 4 = some (.int .i64 (idxF v l i))) ∨ (evCode call env3 195 19 (k + l.length + 21) (.loop b40) tm h = some (.exit 0, tm', h) ∧ idxF v l i = -1)
  | [], i, tm, k, hd, hi, R => by
    have hlen : i = ws.length := by
      have := congrArg List.length hd
      simp at this
      omega
    obtain ⟨tm', h1⟩ := stop40 call o ws v i tm h k R hlen
    refine ⟨tm', .inr ⟨?_, rfl⟩⟩
    rw [show k + ([] : List (List Nat)).length + 21 = (k + 20) + 1 by simp, evCode, h1]
  | w :: l, i, tm, k, hd, hi, R => by
    have hc : ws[i]? = some w := by
      have : (ws.drop i)[0]? = some w := by rw [← hd]; rfl
      simpa using this
    have hil := getElem?_lt hc
    have hd' : l = ws.drop (i + 1) := by
      have := congrArg List.tail hd
      simpa [List.tail_drop] using this
    cases hb : natsBeq v w with
    | true =>
      obtain ⟨tm', h1, h2⟩ := hit40 call o ws v i tm h (k + l.length + 1) R hl w hc hb
      refine ⟨tm', .inl ⟨?_, by simpa [idxF, hb] using h2⟩⟩
      rw [show k + (w :: l).length + 21 = (k + l.length + 1 + 20) + 1 by simp; omega, evCode, h1]
    | false =>
      obtain ⟨tm1, h1, h2⟩ := miss40 call o ws v i tm h (k + l.length + 1) R hl w hc hb
      obtain ⟨tm', h3⟩ := loop40 call o ws v h hl l (i + 1) tm1 k hd' (by omega) h2
      have hstep : evCode call env3 195 19 (k + (w :: l).length + 21) (.loop b40) tm h = evCode call env3 195 19 (k + l.length + 21) (.loop b40) tm1 h := by
        rw [show k + (w :: l).length + 21 = (k + l.length + 1 + 20) + 1 by simp; omega, evCode, h1]
      refine ⟨tm', ?_⟩
      rw [hstep]
      simpa [idxF, hb] using h3
theorem body40 : Tryz.f195.body = some (.seq (codeAt Tryz.f195 [0]) (.seq (.seq (codeAt Tryz.f195 [1, 0, 0]) (.block 0 (.loop b40))) (codeAt Tryz.f195 [1, 1]))) := rfl
theorem run_ret2 {call : CallF} {E : Env} {f n k id : Nat} {b : Code} {tm tm1 : Tm} {h h1 : H} (hb : evCode call E f n k b tm h = some (.ret, tm1, h1)) : evCode call E f n (k + 1) (.block id b) tm h = some (.ret, tm1, h1) := by
  simp only [evCode, hb]
theorem run_seq1 {call : CallF} {E : Env} {f n k : Nat} {a b : Code} {tm tm1 : Tm} {h h1 : H} (ha : evCode call E f n k a tm h = some (.ret, tm1, h1)) : evCode call E f n (k + 1) (.seq a b) tm h = some (.ret, tm1, h1) := by
  simp only [evCode, ha]
theorem run40 (K : Nat) (o : Own) (ws : List (List Nat)) (v : List Nat) (h : H) (hl : ws.length < 4611686018427387904) :
    evFn env3 (K + ws.length + 40) 195 [.sl o (ws.map .str), .str v] h = some (.int .i64 (idxF v ws 0), h) := by
  rw [show K + ws.length + 40 = (K + ws.length + 39) + 1 by omega, evFn]
  simp only [e3_40, f3_40, body40]
  have hk : K + ws.length + 39 = ((((K + 14 + ws.length + 21) + 1) + 1) + 1) + 1 := by omega
  have h1 : ∃ tm1, evCode (evFn env3 (K + ws.length + 39)) env3 195 19 (((((K + 14 + ws.length + 21) + 1) + 1) + 1)) (codeAt Tryz.f195 [0]) (setArgs 0 [.sl o (ws.map .str), .str v] .e) h = some (.normal, tm1, h) ∧
      tm1.get 0 = some (.sl o (ws.map .str)) ∧ tm1.get 1 = some (.str v) := by
    simp only [codeAt, sub, Tryz.f195]
    simp [evFn, evCode, EVT0, evSeq, evOne, evAct, evOp, opKind, evPure, evRead, evNew, evWrite, evSlice, natOf, optVal, readAt, AV.cells, wantedA, putTm, val, allVals, evBin, evInt, evStr, evAppend, evMin, nilCmp, denseFrom, sizesAre, onesIn, evPlan, recheck, H.new, H.put, fillF, fillAt, allOne, AV.one, setArgs, evRes, resOf, ofVal, ofVal0, isShift, ikBeq, MTC]
  obtain ⟨tm1, h1, i0, i1⟩ := h1
  have h2 : ∃ tm2, evCode (evFn env3 (K + ws.length + 39)) env3 195 19 ((((K + 14 + ws.length + 21) + 1))) (codeAt Tryz.f195 [1, 0, 0]) tm1 h = some (.normal, tm2, h) ∧ R40 o ws v 0 tm2 := by
    have fin : ∀ tm', R40 o ws v 0 tm' ↔ (tm'.get 0 = some (.sl o (ws.map .str)) ∧ tm'.get 1 = some (.str v) ∧ tm'.get 7 = some (.int .i64 ↑ws.length) ∧ tm'.get 8 = some (.int .i64 0)) := fun tm' => ⟨fun r => ⟨r.g0, r.g1, r.g7, r.g8⟩, fun r => ⟨r.1, r.2.1, r.2.2.1, r.2.2.2⟩⟩
    simp only [codeAt, sub, Tryz.f195]
    simp [evFn, evCode, EVT0, evSeq, evOne, evAct, evOp, opKind, evPure, evRead, evNew, evWrite, evSlice, natOf, optVal, readAt, AV.cells, wantedA, putTm, val, allVals, evBin, evInt, evStr, evAppend, evMin, nilCmp, denseFrom, sizesAre, onesIn, evPlan, recheck, H.new, H.put, fillF, fillAt, allOne, AV.one, setArgs, evRes, resOf, ofVal, ofVal0, isShift, ikBeq, MTC, i0, i1, t3_36, fin]
  obtain ⟨tm2, h2, R⟩ := h2
  have hn : Tryz.f195.ntmps = 19 := rfl
  have hres : Tryz.f195.results = #[.tmp 4] := rfl
  obtain ⟨tm3, h3⟩ := loop40 (evFn env3 (K + ws.length + 39)) o ws v h hl ws 0 tm2 (K + 14) (by simp) (Nat.zero_le _) R
  rcases h3 with ⟨h3, g4⟩ | ⟨h3, hidx⟩
  · have hall := run_seq h1 (run_seq1 (b := codeAt Tryz.f195 [1, 1]) (run_seq h2 (run_ret2 (id := 0) h3)))
    rw [← hk] at hall
    simp only [hn, hall, hres, List.length_cons, List.length_nil]
    simp [evRes, g4, resOf, ble_dec]
  · have h4 : ∃ tm4, evCode (evFn env3 (K + ws.length + 39)) env3 195 19 ((((K + 14 + ws.length + 21) + 1) + 1)) (codeAt Tryz.f195 [1, 1]) tm3 h = some (.ret, tm4, h) ∧ tm4.get 4 = some (.int .i64 (-1)) := by
      simp only [codeAt, sub, Tryz.f195]
      simp [evFn, evCode, EVT0, evSeq, evOne, evAct, evOp, opKind, evPure, evRead, evNew, evWrite, evSlice, natOf, optVal, readAt, AV.cells, wantedA, putTm, val, allVals, evBin, evInt, evStr, evAppend, evMin, nilCmp, denseFrom, sizesAre, onesIn, evPlan, recheck, H.new, H.put, fillF, fillAt, allOne, AV.one, setArgs, evRes, resOf, ofVal, ofVal0, isShift, ikBeq, MTC]
    obtain ⟨tm4, h4, g4⟩ := h4
    have hall := run_seq h1 (run_seq (run_seq h2 (run_exit h3)) h4)
    rw [← hk] at hall
    simp only [hn, hall, hres, List.length_cons, List.length_nil]
    simp [evRes, g4, resOf, ble_dec, hidx]
end Go.Proofs.YtncccgglillmoaaGreatDoor.Lx
/- The words and the signs; is a text among others. -/
namespace Go.Proofs.YtncccgglillmoaaGreatDoor.Lx
open Go.Ev Go.Proofs.YtncccgglillmoaaGreatDoor.Env

def wordsL : List (List Nat) := [[108, 101, 116], [114, 101, 99], [105, 110], [102, 117, 110], [105, 102], [116, 104, 101, 110], [101, 108, 115, 101], [109, 97, 116, 99, 104], [119, 105, 116, 104], [116, 114, 121], [114, 97, 105, 115, 101], [116, 114, 117, 101], [102, 97, 108, 115, 101], [102, 115, 116], [115, 110, 100], [114, 101, 102], [99, 101, 108, 108], [116, 97, 103], [108, 105, 110, 107, 115], [108, 105, 110, 107], [115, 105, 122, 101], [112, 114, 105, 110, 116]]
def signsL : List (List Nat) := [[58, 61], [58, 58], [45, 62], [40], [41], [91], [93], [44], [59], [61], [60], [43], [45], [42], [94], [33], [124]]
def strsOf : List AV → Option (List (List Nat))
  | [] => some []
  | .str s :: l => match strsOf l with
    | none => none
    | some m => some (s :: m)
  | _ :: _ => none
theorem strsOf_map : ∀ ws : List (List Nat), strsOf (ws.map .str) = some ws
  | [] => rfl
  | w :: ws => by simp [strsOf, strsOf_map ws]
theorem strsOf_some : ∀ {els : List AV} {ws : List (List Nat)}, strsOf els = some ws → els = ws.map .str
  | [], ws, h => by simp [strsOf] at h; subst h; rfl
  | x :: l, ws, h => by
    cases x <;> simp only [strsOf, reduceCtorEq] at h
    rename_i s
    cases hl : strsOf l with
    | none => rw [hl] at h; simp at h
    | some m =>
      rw [hl] at h
      simp only [Option.some.injEq] at h
      subst h
      rw [strsOf_some hl]
      rfl
def small62 (n : Nat) : Bool := Nat.blt n 4611686018427387904
def p30 : List AV → Option AV
  | [.str s, .int .i64 (.ofNat a), .fn f [] []] => match predOf f with
    | none => none
    | some q => bif small62 s.length && Nat.ble a s.length then some (.int .i64 ↑(cnt q (s.drop a))) else none
  | _ => none
def p40 : List AV → Option AV
  | [.sl _ els, .str v] => match strsOf els with
    | none => none
    | some ws => bif small62 ws.length then some (.int .i64 (idxF v ws 0)) else none
  | _ => none
theorem p30_ok : PrimOk Tryz.prog 175 (primPure p30) := by
  refine primPure_ok env3_ok Tryz.func175 (by kernel_rfl) (by kernel_rfl) fun args v hv => ?_
  unfold p30 at hv
  split at hv
  · rename_i s a f
    cases hq : predOf f with
    | none => rw [hq] at hv; simp at hv
    | some q =>
      rw [hq] at hv
      simp only at hv
      cases hc : (small62 s.length && Nat.ble a s.length) with
      | false => rw [hc] at hv; simp at hv
      | true =>
        rw [hc] at hv
        simp only [cond_true, Option.some.injEq] at hv
        subst hv
        simp only [Bool.and_eq_true] at hc
        exact ⟨_, _, _, run30 s a f hq _ (blt_nat.1 hc.1) (Nat.le_of_ble_eq_true hc.2), rfl, rfl⟩
  · simp at hv
theorem p40_ok : PrimOk Tryz.prog 195 (primPure p40) := by
  refine primPure_ok env3_ok Tryz.func195 (by kernel_rfl) (by kernel_rfl) fun args v hv => ?_
  unfold p40 at hv
  split at hv
  · rename_i o els u
    cases hq : strsOf els with
    | none => rw [hq] at hv; simp at hv
    | some ws =>
      rw [hq] at hv
      simp only at hv
      cases hc : small62 ws.length with
      | false => rw [hc] at hv; simp at hv
      | true =>
        rw [hc] at hv
        simp only [cond_true, Option.some.injEq] at hv
        subst hv
        have := strsOf_some hq
        subst this
        exact ⟨_, _, _, run40 0 o ws u _ (blt_nat.1 hc), rfl, rfl⟩
  · simp at hv
end Go.Proofs.YtncccgglillmoaaGreatDoor.Lx
/- The lexer's helpers as primitives. -/
namespace Go.Proofs.YtncccgglillmoaaGreatDoor.Lx
open Go.Ev Go.Proofs.YtncccgglillmoaaGreatDoor.Env

noncomputable def env4 : Env := addPrim (addPrim env3 175 (primPure p30)) 195 (primPure p40)
theorem env4_ok : EnvOk Tryz.prog env4 := addPrim_ok (addPrim_ok env3_ok p30_ok) p40_ok
theorem e4_40 : env4.prim 195 = some (primPure p40) := by kernel_rfl
theorem e4_32 : env4.prim 177 = none := by kernel_rfl
theorem f4_32 : env4.fns 177 = some Tryz.f177 := by kernel_rfl
theorem e4_41 : env4.prim 197 = none := by kernel_rfl
theorem f4_41 : env4.fns 197 = some Tryz.f197 := by kernel_rfl
theorem e4_35 : env4.prim 181 = none := by kernel_rfl
theorem f4_35 : env4.fns 181 = some Tryz.f181 := by kernel_rfl
theorem t4_9 : env4.ty 9 = some { kind := TK.str, sz := 1, byt := 16, zero := some (AV.str []), ag := false, eqf := none } := by kernel_rfl

/-- A call that is closed. -/
def pK (v : AV) : List AV → Option AV
  | [] => some v
  | _ => none
theorem pK_ok {E : Env} (hE : EnvOk Tryz.prog E) {f k : Nat} {fn : Func} {v : AV} (hfn : Tryz.prog.funcs[f]? = some fn) (hnm : (fn.name == "runtime.NumGoroutine") = false) (hb : fn.body.isNone = false)
    (he : (evFn E k f [] ⟨.e, 0⟩).map (fun r => (r.1.forget, r.1.pure)) = some (v, true)) : PrimOk Tryz.prog f (primPure (pK v)) := by
  refine primPure_ok hE hfn hnm hb fun args u hv => ?_
  unfold pK at hv
  split at hv
  · simp only [Option.some.injEq] at hv
    subst hv
    obtain ⟨r, h1, h2⟩ := Option.map_eq_some_iff.1 he
    simp only [Prod.mk.injEq] at h2
    exact ⟨k, r.1, r.2, h1, h2.2, h2.1⟩
  · simp at hv
theorem words_ok : PrimOk Tryz.prog 178 (primPure (pK (.sl .full (wordsL.map .str)))) := pK_ok (k := 20) env4_ok Tryz.func178 (by kernel_rfl) (by kernel_rfl) (by kernel_rfl)
theorem signs_ok : PrimOk Tryz.prog 180 (primPure (pK (.sl .full (signsL.map .str)))) := pK_ok (k := 20) env4_ok Tryz.func180 (by kernel_rfl) (by kernel_rfl) (by kernel_rfl)
theorem rwords_ok : PrimOk Tryz.prog 129 (primPure (pK (.sl .full (wordsL.map .str)))) := pK_ok (k := 20) env4_ok Tryz.func129 (by kernel_rfl) (by kernel_rfl) (by kernel_rfl)

/-- Is a text among others? -/
def hasF (v : List Nat) (ws : List (List Nat)) : Bool := !ltI (idxF v ws 0) 0
def p32 : List AV → Option AV
  | [.sl _ els, .str v] => match strsOf els with
    | none => none
    | some ws => bif small62 ws.length then some (.bool (hasF v ws)) else none
  | _ => none
theorem contains_run (o : Own) (ws : List (List Nat)) (v : List Nat) (hl : small62 ws.length = true) (hp : AV.pures (ws.map .str) = true) (k : Nat) :
    evFn env4 (k + 30) 177 [.sl o (ws.map .str), .str v] ⟨.e, 0⟩ = some (.bool (hasF v ws), ⟨.e, 0⟩) := by
  have hc : ∀ k, evFn env4 (k + 1) 195 [.sl o (ws.map .str), .str v] ⟨.e, 0⟩ = some (.int .i64 (idxF v ws 0), ⟨.e, 0⟩) := fun k => by
    rw [evFn_prim e4_40]
    have hf : AV.forgets (ws.map .str) = ws.map .str := by rw [forgets_map, List.map_map]; rfl
    simp [primPure, AV.pures, AV.pure, hp, AV.forgets, AV.forget, hf, p40, strsOf_map, hl]
  rw [evFn]
  simp [e4_32, f4_32, Tryz.f177, evCode, EVT0, evSeq, evOne, evAct, evOp, opKind, evPure, evRead, evNew, evWrite, evSlice, natOf, optVal, readAt, AV.cells, wantedA, putTm, val, allVals, evBin, evInt, evStr, evAppend, evMin, nilCmp, denseFrom, sizesAre, onesIn, evPlan, recheck, H.new, H.put, fillF, fillAt, allOne, AV.one, setArgs, evRes, resOf, ofVal, ofVal0, isShift, ikBeq, MTC, hc, hasF]
theorem pures_strs : ∀ ws : List (List Nat), AV.pures (ws.map .str) = true
  | [] => rfl
  | w :: ws => by simp [AV.pures, AV.pure, pures_strs ws]
theorem p32_ok : PrimOk Tryz.prog 177 (primPure p32) := by
  refine primPure_ok env4_ok Tryz.func177 (by kernel_rfl) (by kernel_rfl) fun args v hv => ?_
  unfold p32 at hv
  split at hv
  · rename_i o els u
    cases hq : strsOf els with
    | none => rw [hq] at hv; simp at hv
    | some ws =>
      rw [hq] at hv
      simp only at hv
      cases hc : small62 ws.length with
      | false => rw [hc] at hv; simp at hv
      | true =>
        rw [hc] at hv
        simp only [cond_true, Option.some.injEq] at hv
        subst hv
        have := strsOf_some hq
        subst this
        exact ⟨_, _, _, contains_run o ws u hc (pures_strs ws) 0, rfl, rfl⟩
  · simp at hv

/-- Does a text begin with another one? -/
def preF (s p : List Nat) : Bool := !ltI ↑s.length ↑p.length && natsBeq (s.take p.length) p
def p41 : List AV → Option AV
  | [.str s, .str p] => some (.bool (preF s p))
  | _ => none
theorem prefix_run (s p : List Nat) (h : H) (k : Nat) : evFn env4 (k + 30) 197 [.str s, .str p] h = some (.bool (preF s p), h) := by
  rw [evFn]
  simp [e4_41, f4_41, Tryz.f197, evCode, EVT0, evSeq, evOne, evAct, evOp, opKind, evPure, evRead, evNew, evWrite, evSlice, natOf, optVal, readAt, AV.cells, wantedA, putTm, val, allVals, evBin, evInt, evStr, evAppend, evMin, nilCmp, denseFrom, sizesAre, onesIn, evPlan, recheck, H.new, H.put, fillF, fillAt, allOne, AV.one, setArgs, evRes, resOf, ofVal, ofVal0, isShift, ikBeq, MTC, t4_9]
  cases h1 : ltI ↑s.length ↑p.length with
  | true => simp [evCode, EVT0, evSeq, evOne, evAct, evOp, opKind, evPure, evRead, evNew, evWrite, evSlice, natOf, optVal, readAt, AV.cells, wantedA, putTm, val, allVals, evBin, evInt, evStr, evAppend, evMin, nilCmp, denseFrom, sizesAre, onesIn, evPlan, recheck, H.new, H.put, fillF, fillAt, allOne, AV.one, setArgs, evRes, resOf, ofVal, ofVal0, isShift, ikBeq, MTC, preF, h1, t4_9]
  | false =>
    have hle : p.length ≤ s.length := by rw [ltI_nat] at h1; simpa using h1
    simp [evCode, EVT0, evSeq, evOne, evAct, evOp, opKind, evPure, evRead, evNew, evWrite, evSlice, natOf, optVal, readAt, AV.cells, wantedA, putTm, val, allVals, evBin, evInt, evStr, evAppend, evMin, nilCmp, denseFrom, sizesAre, onesIn, evPlan, recheck, H.new, H.put, fillF, fillAt, allOne, AV.one, setArgs, evRes, resOf, ofVal, ofVal0, isShift, ikBeq, MTC, preF, h1, t4_9, hle]
end Go.Proofs.YtncccgglillmoaaGreatDoor.Lx
/- A name, or a word: the program's. -/
namespace Go.Proofs.YtncccgglillmoaaGreatDoor.Lx
open Go.Ev Go.Proofs.YtncccgglillmoaaGreatDoor.Env

theorem p41_ok : PrimOk Tryz.prog 197 (primPure p41) := by
  refine primPure_ok env4_ok Tryz.func197 (by kernel_rfl) (by kernel_rfl) fun args v hv => ?_
  unfold p41 at hv
  split at hv
  · simp only [Option.some.injEq] at hv
    subst hv
    exact ⟨_, _, _, prefix_run _ _ _ 0, rfl, rfl⟩
  · simp at hv
noncomputable def env5 : Env := addPrim (addPrim (addPrim (addPrim (addPrim env4 178 (primPure (pK (.sl .full (wordsL.map .str))))) 180 (primPure (pK (.sl .full (signsL.map .str))))) 129 (primPure (pK (.sl .full (wordsL.map .str))))) 177 (primPure p32)) 197 (primPure p41)
theorem env5_ok : EnvOk Tryz.prog env5 := addPrim_ok (addPrim_ok (addPrim_ok (addPrim_ok (addPrim_ok env4_ok words_ok) signs_ok) rwords_ok) p32_ok) p41_ok
theorem e5_16 : env5.prim 178 = some (primPure (pK (.sl .full (wordsL.map .str)))) := by kernel_rfl
theorem e5_30 : env5.prim 175 = some (primPure p30) := by kernel_rfl
theorem e5_32 : env5.prim 177 = some (primPure p32) := by kernel_rfl
theorem e5_18 : env5.prim 161 = none := by kernel_rfl
theorem f5_18 : env5.fns 161 = some Tryz.f161 := by kernel_rfl
theorem t5_9 : env5.ty 9 = some { kind := TK.str, sz := 1, byt := 16, zero := some (AV.str []), ag := false, eqf := none } := by kernel_rfl
theorem t5_3 : env5.ty 3 = some { kind := TK.int .i64, sz := 1, byt := 8, zero := some (AV.int .i64 0), ag := false, eqf := none } := by kernel_rfl
theorem t5_33 : env5.ty 59 = some { kind := TK.st [(0, 1, false), (1, 1, false), (2, 1, false), (3, 1, false)], sz := 4, byt := 40, zero := some (AV.agg [AV.int IntKind.i64 0, AV.str [], AV.int IntKind.i64 0, AV.int IntKind.i64 0]), ag := true, eqf := some [(0, 0), (1, 1), (2, 0), (3, 0)] } := by kernel_rfl
theorem pl5_18 : env5.plan 161 3 = some [⟨1, false, []⟩, ⟨2, false, []⟩, ⟨0, true, [2]⟩, ⟨3, true, []⟩] := by kernel_rfl

theorem cnt_le (q : Int → Bool) : ∀ l : List Nat, cnt q l ≤ l.length
  | [] => Nat.le_refl _
  | a :: l => by
    simp only [cnt, List.length_cons]
    have := cnt_le q l
    cases q ↑a <;> simp <;> omega
/-- A token. -/
def tokA (kind : Int) (text : List Nat) (n : Int) (a : Int) : AV := .agg [.int .i64 kind, .str text, .int .i64 n, .int .i64 a]
theorem words_call (k : Nat) (h : H) : evFn env5 (k + 1) 178 [] h = some (.sl .full (wordsL.map .str), h) := by
  rw [evFn_prim e5_16]; simp [primPure, AV.pures, AV.forgets, pK]
theorem has_call (k : Nat) (h : H) (v : List Nat) : evFn env5 (k + 1) 177 [.sl .full (wordsL.map .str), .str v] h = some (.bool (hasF v wordsL), h) := by
  rw [evFn_prim e5_32]
  have hf : AV.forgets (wordsL.map .str) = wordsL.map .str := by rw [forgets_map, List.map_map]; rfl
  have hs : small62 wordsL.length = true := by decide
  simp [primPure, AV.pures, AV.pure, pures_strs, AV.forgets, AV.forget, hf, p32, strsOf_map, hs]
theorem run_call (k : Nat) (h : H) (s : List Nat) (a f : Nat) {q : Int → Bool} (hq : predOf f = some q) (hl : s.length < 4611686018427387904) (ha : a ≤ s.length) :
    evFn env5 (k + 1) 175 [.str s, .int .i64 ↑a, .fn f [] []] h = some (.int .i64 ↑(cnt q (s.drop a)), h) := by
  rw [evFn_prim e5_30]
  simp [primPure, AV.pures, AV.pure, AV.forgets, AV.forget, p30, hq, small62, blt_dec, ble_dec, hl, ha]

def nameKind (t : List Nat) : Int := bif hasF t wordsL then 4 else 1
theorem name_run (s : List Nat) (a : Nat) (hl : s.length < 4611686018427387904) (ha : a ≤ s.length) (k : Nat) :
    ∃ h1, evFn env5 (k + 40) 161 [.str s, .int .i64 ↑a] ⟨.e, 0⟩ =
      some (.tup [tokA (nameKind ((s.drop a).take (cnt pMore (s.drop a)))) ((s.drop a).take (cnt pMore (s.drop a))) 0 ↑a, .int .i64 ↑(cnt pMore (s.drop a)), .bool (!ltI 12 ↑(cnt pMore (s.drop a)))], h1) := by
  have c1 : ∀ k h, evFn env5 (k + 1) 175 [.str s, .int .i64 ↑a, .fn 176 [] []] h = some (.int .i64 ↑(cnt pMore (s.drop a)), h) := fun k h => run_call k h s a 176 rfl hl ha
  have hn := cnt_le pMore (s.drop a)
  rw [List.length_drop] at hn
  generalize cnt pMore (s.drop a) = n at *
  have hw : wr .i64 (↑a + ↑n) = ↑(a + n) := by have := wr_nat (n := a + n) (by omega); simpa using this
  have hle : a + n ≤ s.length := by omega
  generalize hm : a + n = m at *
  have hmn : m - a = n := by omega
  have ham : a ≤ m := by omega
  generalize ht : (s.drop a).take n = t at *
  rw [evFn]
  simp only [e5_18, f5_18, Tryz.f161]
  cases hh : hasF t wordsL <;>
    simp [evCode, EVT0, evSeq, evOne, evAct, evOp, opKind, evPure, evRead, evNew, evWrite, evSlice, natOf, optVal, readAt, AV.cells, wantedA, putTm, val, allVals, evBin, evInt, evStr, evAppend, evMin, nilCmp, denseFrom, sizesAre, onesIn, evPlan, recheck, H.new, H.put, fillF, fillAt, allOne, AV.one, setArgs, evRes, resOf, ofVal, ofVal0, isShift, ikBeq, MTC, c1, words_call, has_call, t5_9, t5_3, t5_33, pl5_18, hw, ham, hle, hmn, ht, hh, tokA, nameKind]
end Go.Proofs.YtncccgglillmoaaGreatDoor.Lx
/- A string: the program's. -/
namespace Go.Proofs.YtncccgglillmoaaGreatDoor.Lx
open Go.Ev Go.Proofs.YtncccgglillmoaaGreatDoor.Env

theorem e5_21 : env5.prim 164 = none := by kernel_rfl
theorem f5_21 : env5.fns 164 = some Tryz.f164 := by kernel_rfl
/-- Does a string end there, and is it short enough? -/
def okText (s : List Nat) (e n : Nat) : Bool := match s[e]? with
  | none => false
  | some c => intBeq ↑c 34 && !ltI 40 ↑n
theorem text_run (s : List Nat) (a : Nat) (hl : s.length < 4611686018427387904) (ha : a < s.length) (k : Nat) :
    ∃ h1, evFn env5 (k + 40) 164 [.str s, .int .i64 ↑a] ⟨.e, 0⟩ =
      some (.tup [tokA 3 ((s.drop (a + 1)).take (cnt pPlain (s.drop (a + 1)))) 0 ↑a, .int .i64 ↑(cnt pPlain (s.drop (a + 1)) + 2), .bool (okText s (a + 1 + cnt pPlain (s.drop (a + 1))) (cnt pPlain (s.drop (a + 1))))], h1) := by
  have hw1 : wr .i64 (↑a + 1) = ↑(a + 1) := by have := wr_nat (n := a + 1) (by omega); simpa using this
  have c1 : ∀ k h, evFn env5 (k + 1) 175 [.str s, .int .i64 ↑(a + 1), .fn 179 [] []] h = some (.int .i64 ↑(cnt pPlain (s.drop (a + 1))), h) := fun k h => run_call k h s (a + 1) 179 rfl hl (by omega)
  have hn := cnt_le pPlain (s.drop (a + 1))
  rw [List.length_drop] at hn
  generalize cnt pPlain (s.drop (a + 1)) = n at *
  have hw : wr .i64 (↑(a + 1) + ↑n) = ↑(a + 1 + n) := by have := wr_nat (n := a + 1 + n) (by omega); simpa using this
  have hw2 : wr .i64 (↑n + 2) = ↑(n + 2) := by have := wr_nat (n := n + 2) (by omega); simpa using this
  have hle : a + 1 + n ≤ s.length := by omega
  have hlt : ltI ↑(a + 1 + n) ↑s.length = decide (a + 1 + n < s.length) := ltI_nat _ _
  generalize hm : a + 1 + n = m at *
  have hmn : m - (a + 1) = n := by omega
  have ham : a + 1 ≤ m := by omega
  generalize hn2 : n + 2 = n2 at *
  generalize ha1 : a + 1 = a1 at *
  generalize ht : (s.drop a1).take n = t at *
  rw [evFn]
  simp only [e5_21, f5_21, Tryz.f164]
  cases hc : s[m]? with
  | none =>
    have hge : s.length ≤ m := List.getElem?_eq_none_iff.1 hc
    have hlt' : ltI ↑m ↑s.length = false := by rw [hlt]; simp; exact hge
    simp [evCode, EVT0, evSeq, evOne, evAct, evOp, opKind, evPure, evRead, evNew, evWrite, evSlice, natOf, optVal, readAt, AV.cells, wantedA, putTm, val, allVals, evBin, evInt, evStr, evAppend, evMin, nilCmp, denseFrom, sizesAre, onesIn, evPlan, recheck, H.new, H.put, fillF, fillAt, allOne, AV.one, setArgs, evRes, resOf, ofVal, ofVal0, isShift, ikBeq, MTC, c1, t5_9, t5_3, t5_33, hw1, hw, hw2, ham, hle, hmn, ht, hlt', tokA, okText, hc]
  | some c =>
    have hlt' : ltI ↑m ↑s.length = true := by rw [hlt]; simp; exact getElem?_lt hc
    cases h34 : intBeq ↑c 34 <;> cases h40 : ltI 40 ↑n <;>
      simp [evCode, EVT0, evSeq, evOne, evAct, evOp, opKind, evPure, evRead, evNew, evWrite, evSlice, natOf, optVal, readAt, AV.cells, wantedA, putTm, val, allVals, evBin, evInt, evStr, evAppend, evMin, nilCmp, denseFrom, sizesAre, onesIn, evPlan, recheck, H.new, H.put, fillF, fillAt, allOne, AV.one, setArgs, evRes, resOf, ofVal, ofVal0, isShift, ikBeq, MTC, c1, t5_9, t5_3, t5_33, hw1, hw, hw2, ham, hle, hmn, ht, hlt', hc, h34, h40, tokA, okText]
end Go.Proofs.YtncccgglillmoaaGreatDoor.Lx
