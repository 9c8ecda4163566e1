/- A number: the program's. -/
import Derived.Test.YtncccgglillmoaaGreatDoorZTLSign
set_option autoImplicit false
set_option maxRecDepth 100000
set_option linter.unusedSimpArgs false
set_option linter.unusedVariables false
namespace Go.Proofs.YtncccgglillmoaaGreatDoor.Lx
open Go.Ev Go.Proofs.YtncccgglillmoaaGreatDoor.Env

theorem e5_20 : env5.prim 163 = none := by kernel_rfl
theorem f5_20 : env5.fns 163 = some Tryz.f163 := by kernel_rfl
theorem t5_31 : env5.ty 63 = some { kind := TK.sl 5, sz := 1, byt := 24, zero := some (AV.sl Own.full []), ag := false, eqf := none } := by kernel_rfl
theorem t5_5 : env5.ty 5 = some { kind := TK.int .u8, sz := 1, byt := 1, zero := some (AV.int .u8 0), ag := false, eqf := none } := by kernel_rfl
theorem t5_2 : env5.ty 2 = some { kind := TK.int .i64, sz := 1, byt := 8, zero := some (AV.int .i64 0), ag := false, eqf := none } := by kernel_rfl

theorem isub (a b : Int) : Int.sub a b = a - b := rfl
def stepF (v : Int) (c : Nat) : Int := wr .i64 (wr .i64 (v * 10) + wr .i64 (wr .u8 (↑c - 48)))
def numF : List Nat → Int → Int
  | [], v => v
  | c :: l, v => numF l (stepF v c)
noncomputable def b20 : Code := loopOf Tryz.f163 0
def tokC (v : Int) (a : Nat) : List AV := [.int .i64 2, .str [], .int .i64 v, .int .i64 ↑a]
structure R20 (n : Nat) (t : List Nat) (i : Nat) (tm : Tm) : Prop where
  g4 : tm.get 4 = some (.ptr (some (0, 0)))
  g7 : tm.get 7 = some (.int .i64 ↑n)
  g8 : tm.get 8 = some (.ptr (some (1, 0)))
  g36 : tm.get 36 = some (.sl .no (t.map fun n => .int .u8 (Int.ofNat n)))
  g37 : tm.get 37 = some (.int .i64 ↑t.length)
  g38 : tm.get 38 = some (.int .i64 ↑i)
section
variable (call : CallF) (a n : Nat) (t : List Nat) (i : Nat) (tm : Tm) (h : H) (k : Nat) (v : Int)
theorem round20 (R : R20 n t i tm) (hl : t.length < 4611686018427387904) (c : Nat) (hc : t[i]? = some c) (hz : h.t.get 1 = some (.cells (tokC v a))) :
    ∃ tm', evCode call env5 163 53 (k + 20) b20 tm h = some (.normal, tm', h.put 1 (.cells (tokC (stepF v c) a))) ∧ R20 n t (i + 1) tm' := by
  obtain ⟨h4, h7, h8, h36, h37, h38⟩ := R
  have hil := getElem?_lt hc
  have hw2 : wr .i64 (↑i + 1) = ↑(i + 1) := by have := wr_nat (n := i + 1) (by omega); simpa using this
  have hlt' : ltI ↑i ↑t.length = true := by rw [ltI_nat]; simp [hil]
  generalize hm' : i + 1 = m' at *
  have fin : ∀ tm', R20 n t m' tm' ↔ (tm'.get 4 = some (.ptr (some (0, 0))) ∧ tm'.get 7 = some (.int .i64 ↑n) ∧ tm'.get 8 = some (.ptr (some (1, 0))) ∧ tm'.get 36 = some (.sl .no (t.map fun n => .int .u8 (Int.ofNat n))) ∧ tm'.get 37 = some (.int .i64 ↑t.length) ∧ tm'.get 38 = some (.int .i64 ↑m')) :=
    fun tm' => ⟨fun r => ⟨r.g4, r.g7, r.g8, r.g36, r.g37, r.g38⟩, fun r => ⟨r.1, r.2.1, r.2.2.1, r.2.2.2.1, r.2.2.2.2.1, r.2.2.2.2.2⟩⟩
  simp only [b20, loopOf, Tryz.f163, loops, List.nil_append, List.append_nil, List.cons_append]
  simp [evCode, EVT0, evSeq, evOne, evAct, evOp, opKind, evPure, evRead, evNew, evWrite, evSlice, natOf, optVal, readAt, AV.cells, wantedA, putTm, val, allVals, evBin, evInt, evStr, evAppend, evMin, nilCmp, denseFrom, sizesAre, onesIn, evPlan, recheck, H.new, H.put, fillF, fillAt, allOne, AV.one, setArgs, evRes, resOf, ofVal, ofVal0, isShift, ikBeq, MTC, h4, h7, h8, h36, h37, h38, t5_5, t5_2, t5_31, t5_33, hw2, hlt', hc, hz, tokC, stepF, isub, fin]
theorem stop20 (R : R20 n t i tm) (hi : i = t.length) : ∃ tm', evCode call env5 163 53 (k + 20) b20 tm h = some (.exit 0, tm', h) ∧ R20 n t i tm' := by
  obtain ⟨h4, h7, h8, h36, h37, h38⟩ := R
  have hlt' : ltI ↑i ↑t.length = false := by rw [ltI_nat]; simp [hi]
  have fin : ∀ tm', R20 n t i tm' ↔ (tm'.get 4 = some (.ptr (some (0, 0))) ∧ tm'.get 7 = some (.int .i64 ↑n) ∧ tm'.get 8 = some (.ptr (some (1, 0))) ∧ tm'.get 36 = some (.sl .no (t.map fun n => .int .u8 (Int.ofNat n))) ∧ tm'.get 37 = some (.int .i64 ↑t.length) ∧ tm'.get 38 = some (.int .i64 ↑i)) :=
    fun tm' => ⟨fun r => ⟨r.g4, r.g7, r.g8, r.g36, r.g37, r.g38⟩, fun r => ⟨r.1, r.2.1, r.2.2.1, r.2.2.2.1, r.2.2.2.2.1, r.2.2.2.2.2⟩⟩
  simp only [b20, loopOf, Tryz.f163, loops, List.nil_append, List.append_nil, List.cons_append]
  simp [evCode, EVT0, evSeq, evOne, evAct, evOp, opKind, evPure, evRead, evNew, evWrite, evSlice, natOf, optVal, readAt, AV.cells, wantedA, putTm, val, allVals, evBin, evInt, evStr, evAppend, evMin, nilCmp, denseFrom, sizesAre, onesIn, evPlan, recheck, H.new, H.put, fillF, fillAt, allOne, AV.one, setArgs, evRes, resOf, ofVal, ofVal0, isShift, ikBeq, MTC, h4, h7, h8, h36, h37, h38, t5_5, t5_2, t5_31, hlt', fin]
end
theorem put_get (h : H) (i : Nat) (o : Ev.Obj) (j : Nat) : (h.put i o).t.get j = if j = i then some o else h.t.get j := T.get_set_ite _ _ _ _
theorem loop20 (call : CallF) (a n : Nat) (t : List Nat) (hl : t.length < 4611686018427387904) (o0 : Option Ev.Obj) : ∀ (l : List Nat) (i : Nat) (tm : Tm) (k : Nat) (h : H) (v : Int), l = t.drop i → i ≤ t.length → R20 n t i tm → h.t.get 1 = some (.cells (tokC v a)) → h.t.get 0 = o0 →
    ∃ tm' h' j, evCode call env5 163 53 (k + l.length + 21) (.loop b20) tm h = some (.exit 0, tm', h') ∧ R20 n t j tm' ∧ h'.t.get 1 = some (.cells (tokC (numF l v) a)) ∧ h'.t.get 0 = o0
  | [], i, tm, k, h, v, hd, hi, R, hz, h0 => by
    have hlen : i = t.length := by
      have := congrArg List.length hd
      simp at this
      omega
    obtain ⟨tm', h1, h2⟩ := stop20 call n t i tm h k R hlen
    refine ⟨tm', h, i, ?_, h2, hz, h0⟩
    rw [show k + ([] : List Nat).length + 21 = (k + 20) + 1 by simp, evCode, h1]
  | c :: l, i, tm, k, h, v, hd, hi, R, hz, h0 => by
    have hc : t[i]? = some c := by
      have : (t.drop i)[0]? = some c := by rw [← hd]; rfl
      simpa using this
    have hil := getElem?_lt hc
    have hd' : l = t.drop (i + 1) := by
      have := congrArg List.tail hd
      simpa [List.tail_drop] using this
    obtain ⟨tm1, h1, h2⟩ := round20 call a n t i tm h (k + l.length + 1) v R hl c hc hz
    obtain ⟨tm', h', j, h3, h4, h5, h6⟩ := loop20 call a n t hl o0 l (i + 1) tm1 k (h.put 1 (.cells (tokC (stepF v c) a))) (stepF v c) hd' (by omega) h2 (by simp [put_get]) (by simp [put_get, h0])
    refine ⟨tm', h', j, ?_, h4, h5, h6⟩
    rw [← h3, show k + (c :: l).length + 21 = (k + l.length + 1 + 20) + 1 by simp; omega, evCode, h1]
theorem body20 : Tryz.f163.body = some (.seq (codeAt Tryz.f163 [0]) (.seq (codeAt Tryz.f163 [1, 0]) (.seq (codeAt Tryz.f163 [1, 1, 0]) (.seq (codeAt Tryz.f163 [1, 1, 1, 0])
    (.seq (.seq (codeAt Tryz.f163 [1, 1, 1, 1, 0, 0]) (.block 0 (.loop b20))) (codeAt Tryz.f163 [1, 1, 1, 1, 1])))))) := rfl
def numBad (s : List Nat) (a n : Nat) : Bool := ltI 18 ↑n || (ltI 1 ↑n && (match s[a]? with | some c => intBeq ↑c 48 | none => false))
def numRes (s : List Nat) (a : Nat) : AV := bif numBad s a (cnt pDigit (s.drop a)) then .tup [tokA 2 [] 0 ↑a, .int .i64 ↑(cnt pDigit (s.drop a)), .bool false]
  else .tup [tokA 2 [] (numF ((s.drop a).take (cnt pDigit (s.drop a))) 0) ↑a, .int .i64 ↑(cnt pDigit (s.drop a)), .bool true]
theorem number_run (s : List Nat) (a : Nat) (hl : s.length < 140737488355328) (ha : a < s.length) : ∃ K h1, evFn env5 K 163 [.str s, .int .i64 ↑a] ⟨.e, 0⟩ = some (numRes s a, h1) := by
  have c1 : ∀ k h, evFn env5 (k + 1) 175 [.str s, .int .i64 ↑a, .fn 162 [] []] h = some (.int .i64 ↑(cnt pDigit (s.drop a)), h) := fun k h => run_call k h s a 162 rfl (by omega) (by omega)
  have hn := cnt_le pDigit (s.drop a)
  rw [List.length_drop] at hn
  unfold numRes
  generalize cnt pDigit (s.drop a) = n at *
  have hw : wr .i64 (↑a + ↑n) = ↑(a + n) := by have := wr_nat (n := a + n) (by omega); simpa using this
  have hle : a + n ≤ s.length := by omega
  obtain ⟨c, hc⟩ : ∃ c, s[a]? = some c := ⟨_, List.getElem?_eq_getElem ha⟩
  generalize hm : a + n = m at *
  have hmn : m - a = n := by omega
  have ham : a ≤ m := by omega
  have htl : ((s.drop a).take n).length ≤ 140737488355328 := by simp; omega
  generalize ht : (s.drop a).take n = t at *
  refine ⟨(((((((30 + t.length + 21) + 1) + 1) + 1) + 1) + 1) + 1) + 1, ?_⟩
  rw [evFn]
  simp only [e5_20, f5_20, body20]
  have hn0 : Tryz.f163.ntmps = 53 := rfl
  have hres : Tryz.f163.results = #[.cell 4 59, .tmp 5, .tmp 6] := rfl
  generalize hK : ((((((30 + t.length + 21) + 1) + 1) + 1) + 1) + 1) + 1 = K
  have hK1 : ∃ K', K = K' + 1 := ⟨_, hK.symm⟩
  obtain ⟨K', hK'⟩ := hK1
  have h1 : ∃ tm1 p1, evCode (evFn env5 K) env5 163 53 ((((((30 + t.length + 21) + 1) + 1) + 1) + 1) + 1) (codeAt Tryz.f163 [0]) (setArgs 0 [.str s, .int .i64 ↑a] .e) ⟨.e, 0⟩ = some (.normal, tm1, p1) ∧
      tm1.get 0 = some (.str s) ∧ tm1.get 1 = some (.int .i64 ↑a) ∧ tm1.get 4 = some (.ptr (some (0, 0))) ∧ p1.t.get 0 = some (.cells z4) ∧ p1.nx = 1 := by
    simp only [codeAt, sub, Tryz.f163]
    simp [evCode, EVT0, evSeq, evOne, evAct, evOp, opKind, evPure, evRead, evNew, evWrite, evSlice, natOf, optVal, readAt, AV.cells, wantedA, putTm, val, allVals, evBin, evInt, evStr, evAppend, evMin, nilCmp, denseFrom, sizesAre, onesIn, evPlan, recheck, H.new, H.put, fillF, fillAt, allOne, AV.one, setArgs, evRes, resOf, ofVal, ofVal0, isShift, ikBeq, MTC, t5_33, z4]
    refine ⟨_, _, ⟨rfl, rfl⟩, ?_⟩
    simp [T.get_set_ite]
  obtain ⟨tm1, p1, h1, i0, i1, i4, iz, inx⟩ := h1
  have h2 : ∃ tm2, evCode (evFn env5 K) env5 163 53 (((((30 + t.length + 21) + 1) + 1) + 1) + 1) (codeAt Tryz.f163 [1, 0]) tm1 p1 = some (.normal, tm2, p1) ∧
      tm2.get 0 = some (.str s) ∧ tm2.get 1 = some (.int .i64 ↑a) ∧ tm2.get 4 = some (.ptr (some (0, 0))) ∧ tm2.get 7 = some (.int .i64 ↑n) := by
    subst hK'
    simp only [codeAt, sub, Tryz.f163]
    simp [evCode, EVT0, evSeq, evOne, evAct, evOp, opKind, evPure, evRead, evNew, evWrite, evSlice, natOf, optVal, readAt, AV.cells, wantedA, putTm, val, allVals, evBin, evInt, evStr, evAppend, evMin, nilCmp, denseFrom, sizesAre, onesIn, evPlan, recheck, H.new, H.put, fillF, fillAt, allOne, AV.one, setArgs, evRes, resOf, ofVal, ofVal0, isShift, ikBeq, MTC, i0, i1, i4, c1]
  obtain ⟨tm2, h2, j0, j1, j4, j7⟩ := h2
  have h3 : ∃ tm3 p3, evCode (evFn env5 K) env5 163 53 ((((30 + t.length + 21) + 1) + 1) + 1) (codeAt Tryz.f163 [1, 1, 0]) tm2 p1 = some (.normal, tm3, p3) ∧
      tm3.get 0 = some (.str s) ∧ tm3.get 1 = some (.int .i64 ↑a) ∧ tm3.get 4 = some (.ptr (some (0, 0))) ∧ tm3.get 7 = some (.int .i64 ↑n) ∧ tm3.get 8 = some (.ptr (some (1, 0))) ∧ p3.t.get 0 = some (.cells z4) ∧ p3.t.get 1 = some (.cells (tokC 0 a)) := by
    simp only [codeAt, sub, Tryz.f163]
    simp [evCode, EVT0, evSeq, evOne, evAct, evOp, opKind, evPure, evRead, evNew, evWrite, evSlice, natOf, optVal, readAt, AV.cells, wantedA, putTm, val, allVals, evBin, evInt, evStr, evAppend, evMin, nilCmp, denseFrom, sizesAre, onesIn, evPlan, recheck, H.new, H.put, fillF, fillAt, allOne, AV.one, setArgs, evRes, resOf, ofVal, ofVal0, isShift, ikBeq, MTC, j0, j1, j4, j7, inx, iz, t5_33, t5_3, tokC, z4]
    refine ⟨_, _, ⟨rfl, rfl⟩, ?_⟩
    simp [T.get_set_ite, j0, j1, j4, j7, iz, z4]
  obtain ⟨tm3, p3, h3, k0, k1, k4, k7, k8, kz0, kz1⟩ := h3
  cases hb : numBad s a n with
  | true =>
    have h4 : ∃ tm4 p4, evCode (evFn env5 K) env5 163 53 (((30 + t.length + 21) + 1) + 1) (codeAt Tryz.f163 [1, 1, 1, 0]) tm3 p3 = some (.ret, tm4, p4) ∧ tm4.get 4 = some (.ptr (some (0, 0))) ∧ tm4.get 5 = some (.int .i64 ↑n) ∧ tm4.get 6 = some (.bool false) ∧ p4.t.get 0 = some (.cells (tokC 0 a)) := by
      simp only [numBad, hc] at hb
      simp only [codeAt, sub, Tryz.f163]
      cases e1 : ltI 18 ↑n <;> cases e2 : ltI 1 ↑n <;> cases e3 : intBeq ↑c 48 <;> simp [e1, e2, e3] at hb <;>
        (simp [evCode, EVT0, evSeq, evOne, evAct, evOp, opKind, evPure, evRead, evNew, evWrite, evSlice, natOf, optVal, readAt, AV.cells, wantedA, putTm, val, allVals, evBin, evInt, evStr, evAppend, evMin, nilCmp, denseFrom, sizesAre, onesIn, evPlan, recheck, H.new, H.put, fillF, fillAt, allOne, AV.one, setArgs, evRes, resOf, ofVal, ofVal0, isShift, ikBeq, MTC, k0, k1, k4, k7, k8, kz0, kz1, t5_33, t5_9, e1, e2, e3, hc, tokC, z4]
         refine ⟨_, _, ⟨rfl, rfl⟩, ?_⟩
         simp [T.get_set_ite, k4])
    obtain ⟨tm4, p4, h4, l4, l5, l6, lz⟩ := h4
    have hall := run_seq h1 (run_seq h2 (run_seq h3 (run_seq1 (b := .seq (.seq (codeAt Tryz.f163 [1, 1, 1, 1, 0, 0]) (.block 0 (.loop b20))) (codeAt Tryz.f163 [1, 1, 1, 1, 1])) h4)))
    rw [hK] at hall
    simp only [hn0, hall, hres, List.length_cons, List.length_nil]
    simp [evCode, EVT0, evSeq, evOne, evAct, evOp, opKind, evPure, evRead, evNew, evWrite, evSlice, natOf, optVal, readAt, AV.cells, wantedA, putTm, val, allVals, evBin, evInt, evStr, evAppend, evMin, nilCmp, denseFrom, sizesAre, onesIn, evPlan, recheck, H.new, H.put, fillF, fillAt, allOne, AV.one, setArgs, evRes, resOf, ofVal, ofVal0, isShift, ikBeq, MTC, l4, l5, l6, lz, t5_33, tokC, tokA]
  | false =>
    have h4 : ∃ tm4, evCode (evFn env5 K) env5 163 53 (((30 + t.length + 21) + 1) + 1) (codeAt Tryz.f163 [1, 1, 1, 0]) tm3 p3 = some (.normal, tm4, p3) ∧ tm4.get 0 = some (.str s) ∧ tm4.get 1 = some (.int .i64 ↑a) ∧ tm4.get 4 = some (.ptr (some (0, 0))) ∧ tm4.get 7 = some (.int .i64 ↑n) ∧ tm4.get 8 = some (.ptr (some (1, 0))) := by
      simp only [numBad, hc] at hb
      simp only [codeAt, sub, Tryz.f163]
      cases e1 : ltI 18 ↑n <;> cases e2 : ltI 1 ↑n <;> cases e3 : intBeq ↑c 48 <;> simp [e1, e2, e3] at hb <;>
        simp [evCode, EVT0, evSeq, evOne, evAct, evOp, opKind, evPure, evRead, evNew, evWrite, evSlice, natOf, optVal, readAt, AV.cells, wantedA, putTm, val, allVals, evBin, evInt, evStr, evAppend, evMin, nilCmp, denseFrom, sizesAre, onesIn, evPlan, recheck, H.new, H.put, fillF, fillAt, allOne, AV.one, setArgs, evRes, resOf, ofVal, ofVal0, isShift, ikBeq, MTC, k0, k1, k4, k7, k8, kz0, kz1, t5_33, t5_9, e1, e2, e3, hc, tokC, z4]
    obtain ⟨tm4, h4, l0, l1, l4, l7, l8⟩ := h4
    have h5 : ∃ tm5, evCode (evFn env5 K) env5 163 53 ((29 + t.length + 21) + 1) (codeAt Tryz.f163 [1, 1, 1, 1, 0, 0]) tm4 p3 = some (.normal, tm5, p3) ∧ R20 n t 0 tm5 := by
      have fin : ∀ tm', R20 n t 0 tm' ↔ (tm'.get 4 = some (.ptr (some (0, 0))) ∧ tm'.get 7 = some (.int .i64 ↑n) ∧ tm'.get 8 = some (.ptr (some (1, 0))) ∧ tm'.get 36 = some (.sl .no (t.map fun n => .int .u8 (Int.ofNat n))) ∧ tm'.get 37 = some (.int .i64 ↑t.length) ∧ tm'.get 38 = some (.int .i64 0)) :=
        fun tm' => ⟨fun r => ⟨r.g4, r.g7, r.g8, r.g36, r.g37, r.g38⟩, fun r => ⟨r.1, r.2.1, r.2.2.1, r.2.2.2.1, r.2.2.2.2.1, r.2.2.2.2.2⟩⟩
      simp only [codeAt, sub, Tryz.f163]
      simp [evCode, EVT0, evSeq, evOne, evAct, evOp, opKind, evPure, evRead, evNew, evWrite, evSlice, natOf, optVal, readAt, AV.cells, wantedA, putTm, val, allVals, evBin, evInt, evStr, evAppend, evMin, nilCmp, denseFrom, sizesAre, onesIn, evPlan, recheck, H.new, H.put, fillF, fillAt, allOne, AV.one, setArgs, evRes, resOf, ofVal, ofVal0, isShift, ikBeq, MTC, l0, l1, l4, l7, l8, hw, ham, hle, hmn, ht, htl, t5_31, t5_5, t5_9, fin]
    obtain ⟨tm5, h5, R⟩ := h5
    obtain ⟨tm6, p6, j, h6, R6, z1, z0⟩ := loop20 (evFn env5 K) a n t (by omega) (some (.cells z4)) t 0 tm5 29 p3 0 (by simp) (Nat.zero_le _) R kz1 kz0
    obtain ⟨r4, r7, r8, _, _, _⟩ := R6
    have h7 : ∃ tm7 p7, evCode (evFn env5 K) env5 163 53 (((29 + t.length + 21) + 1) + 1) (codeAt Tryz.f163 [1, 1, 1, 1, 1]) tm6 p6 = some (.ret, tm7, p7) ∧ tm7.get 4 = some (.ptr (some (0, 0))) ∧ tm7.get 5 = some (.int .i64 ↑n) ∧ tm7.get 6 = some (.bool true) ∧ p7.t.get 0 = some (.cells (tokC (numF t 0) a)) := by
      simp only [codeAt, sub, Tryz.f163]
      simp [evCode, EVT0, evSeq, evOne, evAct, evOp, opKind, evPure, evRead, evNew, evWrite, evSlice, natOf, optVal, readAt, AV.cells, wantedA, putTm, val, allVals, evBin, evInt, evStr, evAppend, evMin, nilCmp, denseFrom, sizesAre, onesIn, evPlan, recheck, H.new, H.put, fillF, fillAt, allOne, AV.one, setArgs, evRes, resOf, ofVal, ofVal0, isShift, ikBeq, MTC, r4, r7, r8, z1, z0, t5_33, tokC, z4]
      refine ⟨_, _, ⟨rfl, rfl⟩, ?_⟩
      simp [T.get_set_ite, r4]
    obtain ⟨tm7, p7, h7, q4, q5, q6, qz⟩ := h7
    have h45 : evCode (evFn env5 K) env5 163 53 (((29 + t.length + 21) + 1) + 1) (.seq (codeAt Tryz.f163 [1, 1, 1, 1, 0, 0]) (.block 0 (.loop b20))) tm4 p3 = some (.normal, tm6, p6) := run_seq h5 (run_exit h6)
    have h47 := run_seq h45 h7
    rw [show 29 + t.length + 21 + 1 + 1 + 1 = (30 + t.length + 21) + 1 + 1 by omega] at h47
    have hall := run_seq h1 (run_seq h2 (run_seq h3 (run_seq h4 h47)))
    rw [hK] at hall
    simp only [hn0, hall, hres, List.length_cons, List.length_nil]
    simp [evCode, EVT0, evSeq, evOne, evAct, evOp, opKind, evPure, evRead, evNew, evWrite, evSlice, natOf, optVal, readAt, AV.cells, wantedA, putTm, val, allVals, evBin, evInt, evStr, evAppend, evMin, nilCmp, denseFrom, sizesAre, onesIn, evPlan, recheck, H.new, H.put, fillF, fillAt, allOne, AV.one, setArgs, evRes, resOf, ofVal, ofVal0, isShift, ikBeq, MTC, q4, q5, q6, qz, t5_33, tokC, tokA]
end Go.Proofs.YtncccgglillmoaaGreatDoor.Lx
