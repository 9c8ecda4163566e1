/- A sign: the program's. -/
import Derived.Test.YtncccgglillmoaaGreatDoorZTLText
set_option autoImplicit false
set_option maxRecDepth 100000
set_option linter.unusedSimpArgs false
set_option linter.unusedVariables false
namespace Go.Proofs.YtncccgglillmoaaGreatDoor.Lx
open Go.Ev Go.Proofs.YtncccgglillmoaaGreatDoor.Env

theorem e5_41 : env5.prim 197 = some (primPure p41) := by kernel_rfl
theorem e5_35 : env5.prim 181 = none := by kernel_rfl
theorem f5_35 : env5.fns 181 = some Tryz.f181 := by kernel_rfl
theorem hasPrefix_run (s p : List Nat) (h : H) (k : Nat) : evFn env5 (k + 20) 181 [.str s, .str p] h = some (.bool (preF s p), h) := by
  have c : ∀ k h, evFn env5 (k + 1) 197 [.str s, .str p] h = some (.bool (preF s p), h) := fun k h => by
    rw [evFn_prim e5_41]; simp [primPure, AV.pures, AV.pure, AV.forgets, AV.forget, p41]
  rw [evFn]
  simp [e5_35, f5_35, Tryz.f181, evCode, EVT0, evSeq, evOne, evAct, evOp, opKind, evPure, evRead, evNew, evWrite, evSlice, natOf, optVal, readAt, AV.cells, wantedA, putTm, val, allVals, evBin, evInt, evStr, evAppend, evMin, nilCmp, denseFrom, sizesAre, onesIn, evPlan, recheck, H.new, H.put, fillF, fillAt, allOne, AV.one, setArgs, evRes, resOf, ofVal, ofVal0, isShift, ikBeq, MTC, c]
theorem e5_34 : env5.prim 180 = some (primPure (pK (.sl .full (signsL.map .str)))) := by kernel_rfl
theorem signs_call (k : Nat) (h : H) : evFn env5 (k + 1) 180 [] h = some (.sl .full (signsL.map .str), h) := by
  rw [evFn_prim e5_34]; simp [primPure, AV.pures, AV.forgets, pK]
theorem e5_22 : env5.prim 165 = none := by kernel_rfl
theorem f5_22 : env5.fns 165 = some Tryz.f165 := by kernel_rfl
theorem t5_36 : env5.ty 22 = some { kind := TK.sl 9, sz := 1, byt := 24, zero := some (AV.sl Own.full []), ag := false, eqf := none } := by kernel_rfl

def z4 : List AV := [.int .i64 0, .str [], .int .i64 0, .int .i64 0]
noncomputable def b22 : Code := loopOf Tryz.f165 0
structure R22 (s : List Nat) (a : Nat) (ws : List (List Nat)) (i : Nat) (tm : Tm) : Prop where
  g0 : tm.get 0 = some (.str s)
  g1 : tm.get 1 = some (.int .i64 ↑a)
  g4 : tm.get 4 = some (.ptr (some (0, 0)))
  g9 : tm.get 9 = some (.sl .full (ws.map .str))
  g10 : tm.get 10 = some (.int .i64 ↑ws.length)
  g11 : tm.get 11 = some (.int .i64 ↑i)
section
variable (K : Nat) (s : List Nat) (a : Nat) (ws : List (List Nat)) (i : Nat) (tm : Tm) (h : H) (k : Nat)
theorem miss22 (R : R22 s a ws i tm) (ha : a ≤ s.length) (hl : ws.length < 4611686018427387904) (w : List Nat) (hw : ws[i]? = some w) (hne : preF (s.drop a) w = false) :
    ∃ tm', evCode (evFn env5 (K + 20)) env5 165 27 (k + 20) b22 tm h = some (.normal, tm', h) ∧ R22 s a ws (i + 1) tm' := by
  obtain ⟨h0, h1, h4, h9, h10, h11⟩ := R
  have hil := getElem?_lt hw
  have hw2 : wr .i64 (↑i + 1) = ↑(i + 1) := by have := wr_nat (n := i + 1) (by omega); simpa using this
  have hlt' : ltI ↑i ↑ws.length = true := by rw [ltI_nat]; simp [hil]
  have hc := hasPrefix_run (s.drop a) w h K
  have htk : (s.drop a).take (s.length - a) = s.drop a := List.take_of_length_le (by simp)
  rw [hne] at hc
  generalize hd : s.drop a = d at *
  generalize hm' : i + 1 = m' at *
  have fin : ∀ tm', R22 s a ws m' tm' ↔ (tm'.get 0 = some (.str s) ∧ tm'.get 1 = some (.int .i64 ↑a) ∧ tm'.get 4 = some (.ptr (some (0, 0))) ∧ tm'.get 9 = some (.sl .full (ws.map .str)) ∧ tm'.get 10 = some (.int .i64 ↑ws.length) ∧ tm'.get 11 = some (.int .i64 ↑m')) :=
    fun tm' => ⟨fun r => ⟨r.g0, r.g1, r.g4, r.g9, r.g10, r.g11⟩, fun r => ⟨r.1, r.2.1, r.2.2.1, r.2.2.2.1, r.2.2.2.2.1, r.2.2.2.2.2⟩⟩
  simp only [b22, loopOf, Tryz.f165, loops, List.nil_append, List.append_nil, List.cons_append]
  simp [evCode, EVT0, evSeq, evOne, evAct, evOp, opKind, evPure, evRead, evNew, evWrite, evSlice, natOf, optVal, readAt, AV.cells, wantedA, putTm, val, allVals, evBin, evInt, evStr, evAppend, evMin, nilCmp, denseFrom, sizesAre, onesIn, evPlan, recheck, H.new, H.put, fillF, fillAt, allOne, AV.one, setArgs, evRes, resOf, ofVal, ofVal0, isShift, ikBeq, MTC, h0, h1, h4, h9, h10, h11, t5_9, t5_36, hw2, hlt', hw, hc, ha, hd, htk, fin]
theorem hit22 (R : R22 s a ws i tm) (ha : a ≤ s.length) (hl : ws.length < 4611686018427387904) (w : List Nat) (hw : ws[i]? = some w) (heq : preF (s.drop a) w = true) (hz : h.t.get 0 = some (.cells z4)) :
    ∃ tm', evCode (evFn env5 (K + 20)) env5 165 27 (k + 20) b22 tm h = some (.ret, tm', h.put 0 (.cells [.int .i64 4, .str w, .int .i64 0, .int .i64 ↑a])) ∧ tm'.get 4 = some (.ptr (some (0, 0))) ∧ tm'.get 5 = some (.int .i64 ↑w.length) ∧ tm'.get 6 = some (.bool true) := by
  obtain ⟨h0, h1, h4, h9, h10, h11⟩ := R
  have hil := getElem?_lt hw
  have hlt' : ltI ↑i ↑ws.length = true := by rw [ltI_nat]; simp [hil]
  have hc := hasPrefix_run (s.drop a) w h K
  have htk : (s.drop a).take (s.length - a) = s.drop a := List.take_of_length_le (by simp)
  rw [heq] at hc
  generalize hd : s.drop a = d at *
  simp only [b22, loopOf, Tryz.f165, loops, List.nil_append, List.append_nil, List.cons_append]
  simp [evCode, EVT0, evSeq, evOne, evAct, evOp, opKind, evPure, evRead, evNew, evWrite, evSlice, natOf, optVal, readAt, AV.cells, wantedA, putTm, val, allVals, evBin, evInt, evStr, evAppend, evMin, nilCmp, denseFrom, sizesAre, onesIn, evPlan, recheck, H.new, H.put, fillF, fillAt, allOne, AV.one, setArgs, evRes, resOf, ofVal, ofVal0, isShift, ikBeq, MTC, h0, h1, h4, h9, h10, h11, t5_9, t5_33, t5_36, hlt', hw, hc, ha, hd, htk, hz, z4]
theorem stop22 (R : R22 s a ws i tm) (hi : i = ws.length) : ∃ tm', evCode (evFn env5 (K + 20)) env5 165 27 (k + 20) b22 tm h = some (.exit 0, tm', h) ∧ tm'.get 4 = some (.ptr (some (0, 0))) := by
  obtain ⟨h0, h1, h4, h9, h10, h11⟩ := R
  have hlt' : ltI ↑i ↑ws.length = false := by rw [ltI_nat]; simp [hi]
  simp only [b22, loopOf, Tryz.f165, loops, List.nil_append, List.append_nil, List.cons_append]
  simp [evCode, EVT0, evSeq, evOne, evAct, evOp, opKind, evPure, evRead, evNew, evWrite, evSlice, natOf, optVal, readAt, AV.cells, wantedA, putTm, val, allVals, evBin, evInt, evStr, evAppend, evMin, nilCmp, denseFrom, sizesAre, onesIn, evPlan, recheck, H.new, H.put, fillF, fillAt, allOne, AV.one, setArgs, evRes, resOf, ofVal, ofVal0, isShift, ikBeq, MTC, h0, h1, h4, h9, h10, h11, t5_9, t5_36, hlt']
end
/-- The first one that a text begins with. -/
def firstF (d : List Nat) : List (List Nat) → Option (List Nat)
  | [] => none
  | w :: l => bif preF d w then some w else firstF d l
theorem loop22 (K : Nat) (s : List Nat) (a : Nat) (ws : List (List Nat)) (h : H) (ha : a ≤ s.length) (hl : ws.length < 4611686018427387904) (hz : h.t.get 0 = some (.cells z4)) : ∀ (l : List (List Nat)) (i : Nat) (tm : Tm) (k : Nat), l = ws.drop i → i ≤ ws.length → R22 s a ws i tm →
    ∃ tm', tm'.get 4 = some (.ptr (some (0, 0))) ∧ ((∃ w, firstF (s.drop a) l = some w ∧ evCode (evFn env5 (K + 20)) env5 165 27 (k + l.length + 21) (.loop b22) tm h = some (.ret, tm', h.put 0 (.cells [.int .i64 4, .str w, .int .i64 0, .int .i64 ↑a])) ∧ tm'.get 5 = some (.int .i64 ↑w.length) ∧ tm'.get 6 = some (.bool true)) ∨
      (firstF (s.drop a) l = none ∧ evCode (evFn env5 (K + 20)) env5 165 27 (k + l.length + 21) (.loop b22) tm h = some (.exit 0, tm', h)))
  | [], i, tm, k, hd, hi, R => by
    have hlen : i = ws.length := by
      have := congrArg List.length hd
      simp at this
      omega
    obtain ⟨tm', h1, h2⟩ := stop22 K s a ws i tm h k R hlen
    refine ⟨tm', h2, .inr ⟨rfl, ?_⟩⟩
    rw [show k + ([] : List (List Nat)).length + 21 = (k + 20) + 1 by simp, evCode, h1]
  | w :: l, i, tm, k, hd, hi, R => by
    have hc : ws[i]? = some w := by
      have : (ws.drop i)[0]? = some w := by rw [← hd]; rfl
      simpa using this
    have hil := getElem?_lt hc
    have hd' : l = ws.drop (i + 1) := by
      have := congrArg List.tail hd
      simpa [List.tail_drop] using this
    cases hb : preF (s.drop a) w with
    | true =>
      obtain ⟨tm', h1, h2, h3, h4⟩ := hit22 K s a ws i tm h (k + l.length + 1) R ha hl w hc hb hz
      refine ⟨tm', h2, .inl ⟨w, by simp [firstF, hb], ?_, h3, h4⟩⟩
      rw [show k + (w :: l).length + 21 = (k + l.length + 1 + 20) + 1 by simp; omega, evCode, h1]
    | false =>
      obtain ⟨tm1, h1, h2⟩ := miss22 K s a ws i tm h (k + l.length + 1) R ha hl w hc hb
      obtain ⟨tm', h3, h4⟩ := loop22 K s a ws h ha hl hz l (i + 1) tm1 k hd' (by omega) h2
      have hstep : evCode (evFn env5 (K + 20)) env5 165 27 (k + (w :: l).length + 21) (.loop b22) tm h = evCode (evFn env5 (K + 20)) env5 165 27 (k + l.length + 21) (.loop b22) tm1 h := by
        rw [show k + (w :: l).length + 21 = (k + l.length + 1 + 20) + 1 by simp; omega, evCode, h1]
      refine ⟨tm', h3, ?_⟩
      rw [hstep]
      simpa [firstF, hb] using h4

theorem body22 : Tryz.f165.body = some (.seq (codeAt Tryz.f165 [0]) (.seq (.seq (codeAt Tryz.f165 [1, 0, 0]) (.block 0 (.loop b22))) (codeAt Tryz.f165 [1, 1]))) := rfl
def signRes (s : List Nat) (a : Nat) : AV := match firstF (s.drop a) signsL with
  | some w => .tup [tokA 4 w 0 ↑a, .int .i64 ↑w.length, .bool true]
  | none => .tup [tokA 0 [] 0 0, .int .i64 0, .bool false]
theorem sign_run (s : List Nat) (a : Nat) (ha : a ≤ s.length) : ∃ h1, evFn env5 100 165 [.str s, .int .i64 ↑a] ⟨.e, 0⟩ = some (signRes s a, h1) := by
  have hl : signsL.length < 4611686018427387904 := by decide
  rw [show (100 : Nat) = 99 + 1 by rfl, evFn]
  simp only [e5_22, f5_22, body22]
  have hk : (99 : Nat) = ((((57 + signsL.length + 21) + 1) + 1) + 1) + 1 := by rfl
  have h1 : ∃ tm1 h1, evCode (evFn env5 (79 + 20)) env5 165 27 (((((57 + signsL.length + 21) + 1) + 1) + 1)) (codeAt Tryz.f165 [0]) (setArgs 0 [.str s, .int .i64 ↑a] .e) ⟨.e, 0⟩ = some (.normal, tm1, h1) ∧
      tm1.get 0 = some (.str s) ∧ tm1.get 1 = some (.int .i64 ↑a) ∧ tm1.get 4 = some (.ptr (some (0, 0))) ∧ h1.t.get 0 = some (.cells z4) := by
    simp only [codeAt, sub, Tryz.f165]
    simp [evCode, EVT0, evSeq, evOne, evAct, evOp, opKind, evPure, evRead, evNew, evWrite, evSlice, natOf, optVal, readAt, AV.cells, wantedA, putTm, val, allVals, evBin, evInt, evStr, evAppend, evMin, nilCmp, denseFrom, sizesAre, onesIn, evPlan, recheck, H.new, H.put, fillF, fillAt, allOne, AV.one, setArgs, evRes, resOf, ofVal, ofVal0, isShift, ikBeq, MTC, t5_33, z4]
    refine ⟨_, _, ⟨rfl, rfl⟩, ?_⟩
    simp [T.get_set_ite]
  obtain ⟨tm1, hp1, h1, i0, i1, i4, iz⟩ := h1
  have h2 : ∃ tm2, evCode (evFn env5 (79 + 20)) env5 165 27 ((((57 + signsL.length + 21) + 1))) (codeAt Tryz.f165 [1, 0, 0]) tm1 hp1 = some (.normal, tm2, hp1) ∧ R22 s a signsL 0 tm2 := by
    have fin : ∀ tm', R22 s a signsL 0 tm' ↔ (tm'.get 0 = some (.str s) ∧ tm'.get 1 = some (.int .i64 ↑a) ∧ tm'.get 4 = some (.ptr (some (0, 0))) ∧ tm'.get 9 = some (.sl .full (signsL.map .str)) ∧ tm'.get 10 = some (.int .i64 ↑signsL.length) ∧ tm'.get 11 = some (.int .i64 0)) :=
      fun tm' => ⟨fun r => ⟨r.g0, r.g1, r.g4, r.g9, r.g10, r.g11⟩, fun r => ⟨r.1, r.2.1, r.2.2.1, r.2.2.2.1, r.2.2.2.2.1, r.2.2.2.2.2⟩⟩
    simp only [codeAt, sub, Tryz.f165]
    simp [evCode, EVT0, evSeq, evOne, evAct, evOp, opKind, evPure, evRead, evNew, evWrite, evSlice, natOf, optVal, readAt, AV.cells, wantedA, putTm, val, allVals, evBin, evInt, evStr, evAppend, evMin, nilCmp, denseFrom, sizesAre, onesIn, evPlan, recheck, H.new, H.put, fillF, fillAt, allOne, AV.one, setArgs, evRes, resOf, ofVal, ofVal0, isShift, ikBeq, MTC, i0, i1, i4, t5_36, signs_call, fin]
  obtain ⟨tm2, h2, R⟩ := h2
  have hn : Tryz.f165.ntmps = 27 := rfl
  have hres : Tryz.f165.results = #[.cell 4 59, .tmp 5, .tmp 6] := rfl
  obtain ⟨tm3, g4, h3⟩ := loop22 79 s a signsL hp1 ha hl iz signsL 0 tm2 57 (by simp) (Nat.zero_le _) R
  rcases h3 with ⟨w, hw, h3, g5, g6⟩ | ⟨hw, h3⟩
  · have hall := run_seq h1 (run_seq1 (b := codeAt Tryz.f165 [1, 1]) (run_seq h2 (run_ret2 (id := 0) h3)))
    rw [← hk] at hall
    simp only [show (79 + 20 : Nat) = 99 by rfl] at hall
    simp only [hn, hall, hres, List.length_cons, List.length_nil]
    simp [evCode, EVT0, evSeq, evOne, evAct, evOp, opKind, evPure, evRead, evNew, evWrite, evSlice, natOf, optVal, readAt, AV.cells, wantedA, putTm, val, allVals, evBin, evInt, evStr, evAppend, evMin, nilCmp, denseFrom, sizesAre, onesIn, evPlan, recheck, H.new, H.put, fillF, fillAt, allOne, AV.one, setArgs, evRes, resOf, ofVal, ofVal0, isShift, ikBeq, MTC, g4, g5, g6, t5_33, signRes, hw, tokA]
  · have h4 : ∃ tm4 h4, evCode (evFn env5 (79 + 20)) env5 165 27 ((((57 + signsL.length + 21) + 1) + 1)) (codeAt Tryz.f165 [1, 1]) tm3 hp1 = some (.ret, tm4, h4) ∧ tm4.get 4 = some (.ptr (some (0, 0))) ∧ tm4.get 5 = some (.int .i64 0) ∧ tm4.get 6 = some (.bool false) ∧ h4.t.get 0 = some (.cells z4) := by
      simp only [codeAt, sub, Tryz.f165]
      simp [evCode, EVT0, evSeq, evOne, evAct, evOp, opKind, evPure, evRead, evNew, evWrite, evSlice, natOf, optVal, readAt, AV.cells, wantedA, putTm, val, allVals, evBin, evInt, evStr, evAppend, evMin, nilCmp, denseFrom, sizesAre, onesIn, evPlan, recheck, H.new, H.put, fillF, fillAt, allOne, AV.one, setArgs, evRes, resOf, ofVal, ofVal0, isShift, ikBeq, MTC, g4, iz, t5_33, z4]
      refine ⟨_, _, ⟨rfl, rfl⟩, ?_⟩
      simp [T.get_set_ite, g4]
    obtain ⟨tm4, hp4, h4, j4, g5, g6, jz⟩ := h4
    have hall := run_seq h1 (run_seq (run_seq h2 (run_exit h3)) h4)
    rw [← hk] at hall
    simp only [show (79 + 20 : Nat) = 99 by rfl] at hall
    simp only [hn, hall, hres, List.length_cons, List.length_nil]
    simp [evCode, EVT0, evSeq, evOne, evAct, evOp, opKind, evPure, evRead, evNew, evWrite, evSlice, natOf, optVal, readAt, AV.cells, wantedA, putTm, val, allVals, evBin, evInt, evStr, evAppend, evMin, nilCmp, denseFrom, sizesAre, onesIn, evPlan, recheck, H.new, H.put, fillF, fillAt, allOne, AV.one, setArgs, evRes, resOf, ofVal, ofVal0, isShift, ikBeq, MTC, j4, g5, g6, jz, z4, t5_33, signRes, hw, tokA]
end Go.Proofs.YtncccgglillmoaaGreatDoor.Lx
