/- Is a text among others: the library's look, by a loop. -/
import Derived.Test.YtiifjjcoepgobaaDoorLRun
set_option autoImplicit false
set_option maxRecDepth 100000
set_option linter.unusedSimpArgs false
set_option linter.unusedVariables false
namespace Go.Proofs.YtiifjjcoepgobaaDoor.Env
open Go.Ev

theorem e3_40 : env3.prim 40 = none := by kernel_rfl
theorem f3_40 : env3.fns 40 = some Tryd.f40 := by kernel_rfl
theorem e3_32 : env3.prim 32 = none := by kernel_rfl
theorem f3_32 : env3.fns 32 = some Tryd.f32 := by kernel_rfl
theorem t3_36 : env3.ty 36 = some { kind := TK.sl 9, sz := 1, byt := 24, zero := some (AV.sl Own.full []), ag := false, eqf := none } := by kernel_rfl

/-- Where a text is among others, from a place on; -1: nowhere. -/
def idxF (v : List Nat) : List (List Nat) → Nat → Int
  | [], _ => -1
  | w :: l, i => bif natsBeq v w then ↑i else idxF v l (i + 1)

noncomputable def b40 : Code := loopOf Tryd.f40 0
structure R40 (o : Own) (ws : List (List Nat)) (v : List Nat) (i : Nat) (tm : Tm) : Prop where
  g0 : tm.get 0 = some (.sl o (ws.map .str))
  g1 : tm.get 1 = some (.str v)
  g7 : tm.get 7 = some (.int .i64 ↑ws.length)
  g8 : tm.get 8 = some (.int .i64 ↑i)
section
variable (call : CallF) (o : Own) (ws : List (List Nat)) (v : List Nat) (i : Nat) (tm : Tm) (h : H) (k : Nat)
theorem miss40 (R : R40 o ws v i tm) (hl : ws.length < 4611686018427387904) (w : List Nat) (hw : ws[i]? = some w) (hne : natsBeq v w = false) :
    ∃ tm', evCode call env3 40 19 (k + 20) b40 tm h = some (.normal, tm', h) ∧ R40 o ws v (i + 1) tm' := by
  obtain ⟨h0, h1, h7, h8⟩ := R
  have hil := getElem?_lt hw
  have hw2 : wr .i64 (↑i + 1) = ↑(i + 1) := by have := wr_nat (n := i + 1) (by omega); simpa using this
  have hlt' : ltI ↑i ↑ws.length = true := by rw [ltI_nat]; simp [hil]
  generalize hm' : i + 1 = m' at *
  have fin : ∀ tm', R40 o ws v m' tm' ↔ (tm'.get 0 = some (.sl o (ws.map .str)) ∧ tm'.get 1 = some (.str v) ∧ tm'.get 7 = some (.int .i64 ↑ws.length) ∧ tm'.get 8 = some (.int .i64 ↑m')) := fun tm' => ⟨fun r => ⟨r.g0, r.g1, r.g7, r.g8⟩, fun r => ⟨r.1, r.2.1, r.2.2.1, r.2.2.2⟩⟩
  simp only [b40, loopOf, Tryd.f40, loops, List.nil_append, List.append_nil, List.cons_append]
  simp [evFn, evCode, evSeq, evOne, evAct, evOp, opKind, evPure, evRead, evNew, evWrite, evSlice, natOf, optVal, readAt, AV.cells, wantedA, putTm, val, allVals, evBin, evInt, evStr, setArgs, evRes, resOf, ofVal, ofVal0, blt_dec, ble_dec, beq_dec, T.get_set_ite, T.get_e, isShift, ikBeq, h0, h1, h7, h8, t3_9, t3_36, hw2, hlt', hw, hne, fin]
theorem hit40 (R : R40 o ws v i tm) (hl : ws.length < 4611686018427387904) (w : List Nat) (hw : ws[i]? = some w) (heq : natsBeq v w = true) :
    ∃ tm', evCode call env3 40 19 (k + 20) b40 tm h = some (.ret, tm', h) ∧ tm'.get 4 = some (.int .i64 ↑i) := by
  obtain ⟨h0, h1, h7, h8⟩ := R
  have hil := getElem?_lt hw
  have hlt' : ltI ↑i ↑ws.length = true := by rw [ltI_nat]; simp [hil]
  simp only [b40, loopOf, Tryd.f40, loops, List.nil_append, List.append_nil, List.cons_append]
  simp [evFn, evCode, evSeq, evOne, evAct, evOp, opKind, evPure, evRead, evNew, evWrite, evSlice, natOf, optVal, readAt, AV.cells, wantedA, putTm, val, allVals, evBin, evInt, evStr, setArgs, evRes, resOf, ofVal, ofVal0, blt_dec, ble_dec, beq_dec, T.get_set_ite, T.get_e, isShift, ikBeq, h0, h1, h7, h8, t3_9, t3_36, hlt', hw, heq]
theorem stop40 (R : R40 o ws v i tm) (hi : i = ws.length) : ∃ tm', evCode call env3 40 19 (k + 20) b40 tm h = some (.exit 0, tm', h) := by
  obtain ⟨h0, h1, h7, h8⟩ := R
  have hlt' : ltI ↑i ↑ws.length = false := by rw [ltI_nat]; simp [hi]
  simp only [b40, loopOf, Tryd.f40, loops, List.nil_append, List.append_nil, List.cons_append]
  simp [evFn, evCode, evSeq, evOne, evAct, evOp, opKind, evPure, evRead, evNew, evWrite, evSlice, natOf, optVal, readAt, AV.cells, wantedA, putTm, val, allVals, evBin, evInt, evStr, setArgs, evRes, resOf, ofVal, ofVal0, blt_dec, ble_dec, beq_dec, T.get_set_ite, T.get_e, isShift, ikBeq, h0, h1, h7, h8, t3_9, t3_36, hlt']
end
theorem loop40 (call : CallF) (o : Own) (ws : List (List Nat)) (v : List Nat) (h : H) (hl : ws.length < 4611686018427387904) : ∀ (l : List (List Nat)) (i : Nat) (tm : Tm) (k : Nat), l = ws.drop i → i ≤ ws.length → R40 o ws v i tm →
    ∃ tm', (evCode call env3 40 19 (k + l.length + 21) (.loop b40) tm h = some (.ret, tm', h) ∧ tm'.get 4 = some (.int .i64 (idxF v l i))) ∨ (evCode call env3 40 19 (k + l.length + 21) (.loop b40) tm h = some (.exit 0, tm', h) ∧ idxF v l i = -1)
  | [], i, tm, k, hd, hi, R => by
    have hlen : i = ws.length := by
      have := congrArg List.length hd
      simp at this
      omega
    obtain ⟨tm', h1⟩ := stop40 call o ws v i tm h k R hlen
    refine ⟨tm', .inr ⟨?_, rfl⟩⟩
    rw [show k + ([] : List (List Nat)).length + 21 = (k + 20) + 1 by simp, evCode, h1]
  | w :: l, i, tm, k, hd, hi, R => by
    have hc : ws[i]? = some w := by
      have : (ws.drop i)[0]? = some w := by rw [← hd]; rfl
      simpa using this
    have hil := getElem?_lt hc
    have hd' : l = ws.drop (i + 1) := by
      have := congrArg List.tail hd
      simpa [List.tail_drop] using this
    cases hb : natsBeq v w with
    | true =>
      obtain ⟨tm', h1, h2⟩ := hit40 call o ws v i tm h (k + l.length + 1) R hl w hc hb
      refine ⟨tm', .inl ⟨?_, by simpa [idxF, hb] using h2⟩⟩
      rw [show k + (w :: l).length + 21 = (k + l.length + 1 + 20) + 1 by simp; omega, evCode, h1]
    | false =>
      obtain ⟨tm1, h1, h2⟩ := miss40 call o ws v i tm h (k + l.length + 1) R hl w hc hb
      obtain ⟨tm', h3⟩ := loop40 call o ws v h hl l (i + 1) tm1 k hd' (by omega) h2
      have hstep : evCode call env3 40 19 (k + (w :: l).length + 21) (.loop b40) tm h = evCode call env3 40 19 (k + l.length + 21) (.loop b40) tm1 h := by
        rw [show k + (w :: l).length + 21 = (k + l.length + 1 + 20) + 1 by simp; omega, evCode, h1]
      refine ⟨tm', ?_⟩
      rw [hstep]
      simpa [idxF, hb] using h3
theorem body40 : Tryd.f40.body = some (.seq (codeAt Tryd.f40 [0]) (.seq (.seq (codeAt Tryd.f40 [1, 0, 0]) (.block 0 (.loop b40))) (codeAt Tryd.f40 [1, 1]))) := rfl
theorem run_ret2 {call : CallF} {E : Env} {f n k id : Nat} {b : Code} {tm tm1 : Tm} {h h1 : H} (hb : evCode call E f n k b tm h = some (.ret, tm1, h1)) : evCode call E f n (k + 1) (.block id b) tm h = some (.ret, tm1, h1) := by
  simp only [evCode, hb]
theorem run_seq1 {call : CallF} {E : Env} {f n k : Nat} {a b : Code} {tm tm1 : Tm} {h h1 : H} (ha : evCode call E f n k a tm h = some (.ret, tm1, h1)) : evCode call E f n (k + 1) (.seq a b) tm h = some (.ret, tm1, h1) := by
  simp only [evCode, ha]
theorem run40 (K : Nat) (o : Own) (ws : List (List Nat)) (v : List Nat) (h : H) (hl : ws.length < 4611686018427387904) :
    evFn env3 (K + ws.length + 40) 40 [.sl o (ws.map .str), .str v] h = some (.int .i64 (idxF v ws 0), h) := by
  rw [show K + ws.length + 40 = (K + ws.length + 39) + 1 by omega, evFn]
  simp only [e3_40, f3_40, body40]
  have hk : K + ws.length + 39 = ((((K + 14 + ws.length + 21) + 1) + 1) + 1) + 1 := by omega
  have h1 : ∃ tm1, evCode (evFn env3 (K + ws.length + 39)) env3 40 19 (((((K + 14 + ws.length + 21) + 1) + 1) + 1)) (codeAt Tryd.f40 [0]) (setArgs 0 [.sl o (ws.map .str), .str v] .e) h = some (.normal, tm1, h) ∧
      tm1.get 0 = some (.sl o (ws.map .str)) ∧ tm1.get 1 = some (.str v) := by
    simp only [codeAt, sub, Tryd.f40]
    simp [evFn, evCode, evSeq, evOne, evAct, evOp, opKind, evPure, evRead, evNew, evWrite, evSlice, natOf, optVal, readAt, AV.cells, wantedA, putTm, val, allVals, evBin, evInt, evStr, setArgs, evRes, resOf, ofVal, ofVal0, blt_dec, ble_dec, beq_dec, T.get_set_ite, T.get_e, isShift, ikBeq]
  obtain ⟨tm1, h1, i0, i1⟩ := h1
  have h2 : ∃ tm2, evCode (evFn env3 (K + ws.length + 39)) env3 40 19 ((((K + 14 + ws.length + 21) + 1))) (codeAt Tryd.f40 [1, 0, 0]) tm1 h = some (.normal, tm2, h) ∧ R40 o ws v 0 tm2 := by
    have fin : ∀ tm', R40 o ws v 0 tm' ↔ (tm'.get 0 = some (.sl o (ws.map .str)) ∧ tm'.get 1 = some (.str v) ∧ tm'.get 7 = some (.int .i64 ↑ws.length) ∧ tm'.get 8 = some (.int .i64 0)) := fun tm' => ⟨fun r => ⟨r.g0, r.g1, r.g7, r.g8⟩, fun r => ⟨r.1, r.2.1, r.2.2.1, r.2.2.2⟩⟩
    simp only [codeAt, sub, Tryd.f40]
    simp [evFn, evCode, evSeq, evOne, evAct, evOp, opKind, evPure, evRead, evNew, evWrite, evSlice, natOf, optVal, readAt, AV.cells, wantedA, putTm, val, allVals, evBin, evInt, evStr, setArgs, evRes, resOf, ofVal, ofVal0, blt_dec, ble_dec, beq_dec, T.get_set_ite, T.get_e, isShift, ikBeq, i0, i1, t3_36, fin]
  obtain ⟨tm2, h2, R⟩ := h2
  have hn : Tryd.f40.ntmps = 19 := rfl
  have hres : Tryd.f40.results = #[.tmp 4] := rfl
  obtain ⟨tm3, h3⟩ := loop40 (evFn env3 (K + ws.length + 39)) o ws v h hl ws 0 tm2 (K + 14) (by simp) (Nat.zero_le _) R
  rcases h3 with ⟨h3, g4⟩ | ⟨h3, hidx⟩
  · have hall := run_seq h1 (run_seq1 (b := codeAt Tryd.f40 [1, 1]) (run_seq h2 (run_ret2 (id := 0) h3)))
    rw [← hk] at hall
    simp only [hn, hall, hres, List.length_cons, List.length_nil]
    simp [evRes, g4, resOf, ble_dec]
  · have h4 : ∃ tm4, evCode (evFn env3 (K + ws.length + 39)) env3 40 19 ((((K + 14 + ws.length + 21) + 1) + 1)) (codeAt Tryd.f40 [1, 1]) tm3 h = some (.ret, tm4, h) ∧ tm4.get 4 = some (.int .i64 (-1)) := by
      simp only [codeAt, sub, Tryd.f40]
      simp [evFn, evCode, evSeq, evOne, evAct, evOp, opKind, evPure, evRead, evNew, evWrite, evSlice, natOf, optVal, readAt, AV.cells, wantedA, putTm, val, allVals, evBin, evInt, evStr, setArgs, evRes, resOf, ofVal, ofVal0, blt_dec, ble_dec, beq_dec, T.get_set_ite, T.get_e, isShift, ikBeq]
    obtain ⟨tm4, h4, g4⟩ := h4
    have hall := run_seq h1 (run_seq (run_seq h2 (run_exit h3)) h4)
    rw [← hk] at hall
    simp only [hn, hall, hres, List.length_cons, List.length_nil]
    simp [evRes, g4, resOf, ble_dec, hidx]
end Go.Proofs.YtiifjjcoepgobaaDoor.Env
