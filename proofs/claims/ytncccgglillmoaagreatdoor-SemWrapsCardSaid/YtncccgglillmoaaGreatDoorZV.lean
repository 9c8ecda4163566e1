/- SemWraps: what the run of a product is, numbers being symbols. -/
import Derived.Test.YtncccgglillmoaaGreatDoorZE
import Derived.Test.YtncccgglillmoaaGreatDoorZTW
set_option autoImplicit false
set_option maxRecDepth 100000
set_option linter.unusedSimpArgs false
set_option linter.unusedVariables false
set_option linter.unusedSectionVars false
set_option maxHeartbeats 4000000
namespace Go.Proofs.YtncccgglillmoaaGreatDoor.Env
open Go.Ev Go.Ev.Nd Go.Proofs.YtncccgglillmoaaGreatDoor.Lx

noncomputable def EW : Env := addPrim env2 24 Tr.pIsT
theorem EW_ok : EnvOk Tryz.prog EW := addPrim_ok env2_ok Tr.p9_ok
def oAdd : List Nat := [97, 100, 100]
def oMul : List Nat := [109, 117, 108]
def oI : List Nat := [105, 110, 116]
def leafA (a : Int) : AV := .agg [.str oI, .str [], .str [], .int .i64 a, .int .i64 0, .sl .full []]
def nodA (a b : Int) : AV := .agg [.str oMul, .str [], .str [], .int .i64 0, .int .i64 0, .sl .full [leafA a, .agg [.str oAdd, .str [], .str [], .int .i64 0, .int .i64 0, .sl .full [leafA b, leafA a]]]]
def leafN (a : Int) : Nd := .mk oI [] [] a 0 []
def nodN (a b : Int) : Nd := .mk oMul [] [] 0 0 [leafN a, .mk oAdd [] [] 0 0 [leafN b, leafN a]]
theorem nod_wk (a b : Int) : (nodA a b).wk 0 (nodN a b).av := by
  simp [nodA, nodN, leafA, leafN, Nd.av, avs, wk_agg, wk_tup, wk_sl, wks_cons, wks_nil, wk_int, wk_str, wk_bool, own_no]
def okN (a : Int) : Prop := 0 ≤ a ∧ a ≤ 576460752303423488
theorem nil_ok : okS [] := ⟨by simp, by simp⟩
theorem leaf_fit {a : Int} (h : okN a) : fit (leafN a) := ⟨⟨by simp [oI], by simp [oI]⟩, nil_ok, nil_ok, by unfold okN at h; omega, by omega, by simp, trivial⟩
theorem nod_fit {a b : Int} (ha : okN a) (hb : okN b) : fit (nodN a b) :=
  ⟨⟨by simp [oMul], by simp [oMul]⟩, nil_ok, nil_ok, by omega, by omega, by simp, leaf_fit ha, ⟨⟨by simp [oAdd], by simp [oAdd]⟩, nil_ok, nil_ok, by omega, by omega, by simp, leaf_fit hb, leaf_fit ha, trivial⟩, trivial⟩
theorem leaf_each {a : Int} (h : okN a) : Tr.eachF (leafN a) = true := by
  rw [Tr.eachF_eq]
  have h1 : intBeq (Tr.kidsF oI) 0 = true := by kernel_rfl
  have h2 : Tr.namA oI [] = true := by kernel_rfl
  have h3 : Tr.namB oI [] = true := by kernel_rfl
  have h4 : Tr.namN oI a = true := by
    have e : Tr.namN oI a = (!ltI a 0 && !ltI 999999999999999999 a) := by unfold Tr.namN; rw [show natsBeq oI Tr.intS = true from by kernel_rfl]; rfl
    rw [e, ltI_eq, ltI_eq]
    unfold okN at h
    simp; omega
  simp only [leafN, Nd.op, Nd.kids, Tr.namesR, Nd.name, Nd.arg, Nd.n, Tr.eachL, List.length_nil]
  rw [h2, h3, h4, show ((0 : Nat) : Int) = 0 from rfl, h1]
  rfl
theorem nod_is {a b : Int} (ha : okN a) (hb : okN b) : Tr.isR (nodN a b) = true := by
  have hs : Tr.sizeF (nodN a b) = 5 := by kernel_rfl
  unfold Tr.isR
  rw [hs, show ltI 2000 5 = false from rfl]
  have e1 : Tr.eachF (.mk oAdd [] [] 0 0 [leafN b, leafN a]) = true := by
    rw [Tr.eachF_eq]
    have h1 : intBeq (Tr.kidsF oAdd) 2 = true := by kernel_rfl
    have h2 : Tr.namesR (.mk oAdd [] [] 0 0 [leafN b, leafN a]) = true := by kernel_rfl
    rw [h2]
    simp only [Nd.op, Nd.kids, Tr.eachL, List.length_cons, List.length_nil, Nat.zero_add, leaf_each ha, leaf_each hb]
    rw [show ((1 + 1 : Nat) : Int) = 2 from rfl, h1]; rfl
  rw [Tr.eachF_eq]
  have h1 : intBeq (Tr.kidsF oMul) 2 = true := by kernel_rfl
  have h2 : Tr.namesR (nodN a b) = true := by kernel_rfl
  rw [h2]
  simp only [nodN, Nd.op, Nd.kids, Tr.eachL, List.length_cons, List.length_nil, Nat.zero_add, leaf_each ha, e1]
  rw [show ((1 + 1 : Nat) : Int) = 2 from rfl, h1]; rfl
theorem kIs {a b : Int} (ha : okN a) (hb : okN b) (h : H) : evL EW 24 [nodA a b] h = some (.bool true, h) := by
  have := prim1_call (E := EW) (f := 24) (x := nodA a b) (a := nodN a b) (F := Tr.isR) (q := fit) (by kernel_rfl) (nod_wk a b) (nod_fit ha hb) h
  rw [nod_is ha hb] at this
  exact this
def exTm : Option (Ex × Tm × H) → Tm
  | some (_, t, _) => t
  | none => .e
def exH : Option (Ex × Tm × H) → H
  | some (_, _, h) => h
  | none => ⟨.e, 0⟩
def isN : Option (Ex × Tm × H) → Bool
  | some (.normal, _, _) => true
  | _ => false
def isR : Option (Ex × Tm × H) → Bool
  | some (.ret, _, _) => true
  | _ => false
theorem isN_eq {r : Option (Ex × Tm × H)} (h : isN r = true) : r = some (.normal, exTm r, exH r) := by
  rcases r with _ | ⟨e, t, g⟩
  · cases h
  · cases e <;> first | rfl | cases h
theorem isR_eq {r : Option (Ex × Tm × H)} (h : isR r = true) : r = some (.ret, exTm r, exH r) := by
  rcases r with _ | ⟨e, t, g⟩
  · cases h
  · cases e <;> first | rfl | cases h
theorem body4 : Tryz.f4.body = some (.seq (codeAt Tryz.f4 [0]) (.seq (codeAt Tryz.f4 [1, 0]) (.seq (codeAt Tryz.f4 [1, 1, 0]) (.seq (codeAt Tryz.f4 [1, 1, 1, 0]) (codeAt Tryz.f4 [1, 1, 1, 1]))))) := rfl
theorem body10 : Tryz.f10.body = some (.seq (codeAt Tryz.f10 [0]) (.seq (codeAt Tryz.f10 [1, 0]) (codeAt Tryz.f10 [1, 1]))) := rfl
theorem body12 : Tryz.f12.body = some (.seq (codeAt Tryz.f12 [0]) (.seq (codeAt Tryz.f12 [1, 0]) (codeAt Tryz.f12 [1, 1]))) := rfl
theorem zty : EW.ty = env.ty := rfl
theorem zpl : EW.plan = env.plan := rfl
noncomputable abbrev ev (f n : Nat) (c : Code) (tm : Tm) (h : H) : Option (Ex × Tm × H) := evCode (evFn EW 300) EW f n 300 c tm h
/-! the law, up to the call of Run -/
noncomputable def A0 (a b : Int) := ev 4 53 (codeAt Tryz.f4 [0]) (setArgs 0 [.int .i64 a, .int .i64 b] .e) ⟨.e, 0⟩
theorem A0_n (a b : Int) : isN (A0 a b) = true := by kernel_rfl
theorem A0_0 (a b : Int) : (exTm (A0 a b)).get 0 = some (.int .i64 a) := by kernel_rfl
theorem A0_1 (a b : Int) : (exTm (A0 a b)).get 1 = some (.int .i64 b) := by kernel_rfl
noncomputable def B1 (a b : Int) : Tm := (((((((((((((((exTm (A0 a b)).set 7 (.int .i64 a)).set 8 (.bool false)).set 9 (.bool false)).set 10 (.int .i64 a)).set 11 (.bool false)).set 12 (.bool false)).set 13 (.bool false)).set 14 (.int .i64 b)).set 15 (.bool false)).set 16 (.bool false)).set 17 (.bool false)).set 18 (.int .i64 b)).set 19 (.bool false)).set 20 (.bool false))
theorem A1 {a b : Int} (ha : okN a) (hb : okN b) : cdL EW 4 53 (codeAt Tryz.f4 [1, 0]) (exTm (A0 a b)) (exH (A0 a b)) = some (.normal, B1 a b, exH (A0 a b)) := by
  have h1 : ltI a 0 = false := by rw [ltI_eq]; unfold okN at ha; simp; omega
  have h2 : ltI 576460752303423488 a = false := by rw [ltI_eq]; unfold okN at ha; simp; omega
  have h3 : ltI b 0 = false := by rw [ltI_eq]; unfold okN at hb; simp; omega
  have h4 : ltI 576460752303423488 b = false := by rw [ltI_eq]; unfold okN at hb; simp; omega
  have g0 := A0_0 a b
  have g1 := A0_1 a b
  unfold B1
  generalize exTm (A0 a b) = t at *
  generalize exH (A0 a b) = hh at *
  have hty := zty
  have hpl := zpl
  generalize EW = E at *
  simp only [codeAt, condAt, sub, Tryz.f4]
  simp [EVT, endL, evSeq, evOne, evAct, evOp, opKind, evPure, evRead, evNew, evWrite, evSlice, natOf, optVal, readAt, AV.cells, wantedA, putTm, val, allVals, evBin, evInt, evStr, evAppend, evMin, nilCmp, denseFrom, sizesAre, onesIn, evPlan, recheck, H.new, H.put, fillF, fillAt, allOne, AV.one, setArgs, evRes, resOf, ofVal, ofVal0, isShift, ikBeq, TYC, hty, hpl, g0, g1, h1, h2, h3, h4]
noncomputable def A2 (a b : Int) := ev 4 53 (codeAt Tryz.f4 [1, 1, 0]) (B1 a b) (exH (A0 a b))
theorem A2_n (a b : Int) : isN (A2 a b) = true := by kernel_rfl
/-! Run, up to the call of Of -/
theorem A2_5 (a b : Int) : (exTm (A2 a b)).get 5 = some (.ptr (some (0, 0))) := by kernel_rfl
theorem A2_h (a b : Int) : (exH (A2 a b)).t.get 0 = some (.cells [.str oMul, .str [], .str [], .int .i64 0, .int .i64 0, .sl .full [leafA a, .agg [.str oAdd, .str [], .str [], .int .i64 0, .int .i64 0, .sl .full [leafA b, leafA a]]]]) := by kernel_rfl
noncomputable def R0 (a b : Int) := ev 10 93 (codeAt Tryz.f10 [0]) (setArgs 0 [nodA a b, .int .i64 9] .e) (exH (A2 a b))
theorem R0_n (a b : Int) : isN (R0 a b) = true := by kernel_rfl
theorem R0_2 (a b : Int) : (exTm (R0 a b)).get 2 = some (.ptr (some (1, 0))) := by kernel_rfl
theorem R0_h (a b : Int) : (exH (R0 a b)).t.get 1 = some (.cells (nodA a b).cells) := by kernel_rfl
/-! Of -/
noncomputable def O0 (a b : Int) := ev 12 40 (codeAt Tryz.f12 [0]) (setArgs 0 [nodA a b] .e) (exH (R0 a b))
theorem O0_n (a b : Int) : isN (O0 a b) = true := by kernel_rfl
theorem O0_1 (a b : Int) : (exTm (O0 a b)).get 1 = some (.ptr (some (3, 0))) := by kernel_rfl
theorem O0_h (a b : Int) : (exH (O0 a b)).t.get 3 = some (.cells (nodA a b).cells) := by kernel_rfl
noncomputable def P1 (a b : Int) : Tm := ((exTm (O0 a b)).set 8 (nodA a b)).set 9 (.bool true) |>.set 10 (.bool false)
theorem O1 {a b : Int} (ha : okN a) (hb : okN b) : cdL EW 12 40 (codeAt Tryz.f12 [1, 0]) (exTm (O0 a b)) (exH (O0 a b)) = some (.normal, P1 a b, exH (O0 a b)) := by
  have g1 := O0_1 a b
  have g3 := O0_h a b
  have k := kIs ha hb
  unfold P1
  generalize exTm (O0 a b) = t at *
  generalize exH (O0 a b) = hh at *
  have hty := zty
  have hpl := zpl
  generalize EW = E at *
  simp only [nodA, AV.cells] at g3 k ⊢
  simp only [codeAt, condAt, sub, Tryz.f12]
  simp [EVT, endL, evSeq, evOne, evAct, evOp, opKind, evPure, evRead, evNew, evWrite, evSlice, natOf, optVal, readAt, AV.cells, wantedA, putTm, val, allVals, evBin, evInt, evStr, evAppend, evMin, nilCmp, denseFrom, sizesAre, onesIn, evPlan, recheck, H.new, H.put, fillF, fillAt, allOne, AV.one, setArgs, evRes, resOf, ofVal, ofVal0, isShift, ikBeq, TYC, hty, hpl, g1, g3, k]
noncomputable def O2 (a b : Int) := ev 12 40 (codeAt Tryz.f12 [1, 1]) (P1 a b) (exH (O0 a b))
theorem O2_r (a b : Int) : isR (O2 a b) = true := by kernel_rfl
end Go.Proofs.YtncccgglillmoaaGreatDoor.Env
/- SemWraps: Run, and the law. -/
set_option maxHeartbeats 4000000
namespace Go.Proofs.YtncccgglillmoaaGreatDoor.Env
open Go.Ev Go.Ev.Nd Go.Proofs.YtncccgglillmoaaGreatDoor.Lx

theorem cdN {f n : Nat} {c : Code} {tm : Tm} {h : H} (he : isN (ev f n c tm h) = true) : cdL EW f n c tm h = some (.normal, exTm (ev f n c tm h), exH (ev f n c tm h)) := cd_of (isN_eq he)
theorem cdR {f n : Nat} {c : Code} {tm : Tm} {h : H} (he : isR (ev f n c tm h) = true) : cdL EW f n c tm h = some (.ret, exTm (ev f n c tm h), exH (ev f n c tm h)) := cd_of (isR_eq he)
theorem seqN {f n : Nat} {a b : Code} {tm tm' : Tm} {h h' : H} (e : cdL EW f n a tm h = some (.normal, tm', h')) : cdL EW f n (.seq a b) tm h = cdL EW f n b tm' h' := by rw [cdL_seq, e]
def tyI : AV := .agg [.str oI, .int .i64 0, .sl .full []]
theorem O_end (a b : Int) : endL EW.ty Tryz.f12.results.toList (O2 a b) = some (.tup [tyI, .int .i64 0, .int .i64 0], exH (O2 a b)) := by kernel_rfl
theorem O0_c (a b : Int) : cdL EW 12 40 (codeAt Tryz.f12 [0]) (setArgs 0 [nodA a b] .e) (exH (R0 a b)) = some (.normal, exTm (O0 a b), exH (O0 a b)) := cdN (O0_n a b)
theorem O2_c (a b : Int) : cdL EW 12 40 (codeAt Tryz.f12 [1, 1]) (P1 a b) (exH (O0 a b)) = some (.ret, exTm (O2 a b), exH (O2 a b)) := by
  have h := O2_r a b
  unfold O2 at h ⊢
  exact cdR h
theorem of_wr {a b : Int} (ha : okN a) (hb : okN b) : evL EW 12 [nodA a b] (exH (R0 a b)) = some (.tup [tyI, .int .i64 0, .int .i64 0], exH (O2 a b)) := by
  rw [evL_fn EW (by kernel_rfl) (by kernel_rfl) body12 _ _ rfl]
  have e : cdL EW 12 40 (.seq (codeAt Tryz.f12 [0]) (.seq (codeAt Tryz.f12 [1, 0]) (codeAt Tryz.f12 [1, 1]))) (setArgs 0 [nodA a b] .e) (exH (R0 a b)) = some (.ret, exTm (O2 a b), exH (O2 a b)) :=
    (seqN (O0_c a b)).trans ((seqN (O1 ha hb)).trans (O2_c a b))
  exact (congrArg (endL EW.ty Tryz.f12.results.toList) e).trans ((congrArg (endL EW.ty Tryz.f12.results.toList) (isR_eq (O2_r a b))).symm.trans (O_end a b))
/-! Run -/
noncomputable def TR1 (a b : Int) : Tm := (((((((((((exTm (R0 a b)).set 15 (nodA a b)).set 16 (.tup [tyI, .int .i64 0, .int .i64 0])).set 14 (.tup [tyI, .int .i64 0, .int .i64 0])).set 17 tyI).set 18 (.int .i64 0)).set 19 (.int .i64 0)).set 5 (.ptr (some ((exH (O2 a b)).nx, 0)))).set 6 (.int .i64 0)).set 7 (.int .i64 0)).set 20 (.int .i64 0)).set 21 (.bool false)
noncomputable def HR1 (a b : Int) : H := ⟨((exH (O2 a b)).t.set (exH (O2 a b)).nx (.cells [.str [], .int .i64 0, .sl .full []])).set (exH (O2 a b)).nx (.cells tyI.cells), (exH (O2 a b)).nx + 1⟩
theorem R1 {a b : Int} (ha : okN a) (hb : okN b) : cdL EW 10 93 (codeAt Tryz.f10 [1, 0]) (exTm (R0 a b)) (exH (R0 a b)) = some (.normal, TR1 a b, HR1 a b) := by
  have g2 := R0_2 a b
  have gh := R0_h a b
  have k := of_wr ha hb
  have hz : intBeq 0 0 = true := rfl
  unfold TR1 HR1
  generalize exTm (R0 a b) = t at *
  generalize exH (R0 a b) = hh at *
  generalize exH (O2 a b) = h2 at *
  have hty := zty
  have hpl := zpl
  generalize EW = E at *
  simp only [nodA, AV.cells, tyI] at gh k ⊢
  simp only [codeAt, condAt, sub, Tryz.f10]
  simp [EVT, endL, evSeq, evOne, evAct, evOp, opKind, evPure, evRead, evNew, evWrite, evSlice, natOf, optVal, readAt, AV.cells, wantedA, putTm, val, allVals, evBin, evInt, evStr, evAppend, evMin, nilCmp, denseFrom, sizesAre, onesIn, evPlan, recheck, H.new, H.put, fillF, fillAt, allOne, AV.one, setArgs, evRes, resOf, ofVal, ofVal0, isShift, ikBeq, TYC, hty, hpl, g2, gh, k, hz]
noncomputable def S2 (a b : Int) := ev 10 93 (codeAt Tryz.f10 [1, 1, 0]) (TR1 a b) (HR1 a b)
noncomputable def S3 (a b : Int) := ev 10 93 (codeAt Tryz.f10 [1, 1, 1, 0]) (exTm (S2 a b)) (exH (S2 a b))
noncomputable def S4 (a b : Int) := ev 10 93 (codeAt Tryz.f10 [1, 1, 1, 1, 0]) (exTm (S3 a b)) (exH (S3 a b))
noncomputable def S5 (a b : Int) := ev 10 93 (codeAt Tryz.f10 [1, 1, 1, 1, 1, 0]) (exTm (S4 a b)) (exH (S4 a b))
noncomputable def S6 (a b : Int) := ev 10 93 (codeAt Tryz.f10 [1, 1, 1, 1, 1, 1, 0]) (exTm (S5 a b)) (exH (S5 a b))
noncomputable def S7 (a b : Int) := ev 10 93 (codeAt Tryz.f10 [1, 1, 1, 1, 1, 1, 1, 0]) (exTm (S6 a b)) (exH (S6 a b))
noncomputable def S8 (a b : Int) := ev 10 93 (codeAt Tryz.f10 [1, 1, 1, 1, 1, 1, 1, 1, 0]) (exTm (S7 a b)) (exH (S7 a b))
noncomputable def S9 (a b : Int) := ev 10 93 (codeAt Tryz.f10 [1, 1, 1, 1, 1, 1, 1, 1, 1, 0]) (exTm (S8 a b)) (exH (S8 a b))
noncomputable def S10 (a b : Int) := ev 10 93 (codeAt Tryz.f10 [1, 1, 1, 1, 1, 1, 1, 1, 1, 1, 0]) (exTm (S9 a b)) (exH (S9 a b))
noncomputable def S11 (a b : Int) := ev 10 93 (codeAt Tryz.f10 [1, 1, 1, 1, 1, 1, 1, 1, 1, 1, 1, 0]) (exTm (S10 a b)) (exH (S10 a b))
end Go.Proofs.YtncccgglillmoaaGreatDoor.Env
/- SemWraps: Run to its end; the law. -/
set_option maxHeartbeats 4000000
namespace Go.Proofs.YtncccgglillmoaaGreatDoor.Env
open Go.Ev Go.Ev.Nd Go.Proofs.YtncccgglillmoaaGreatDoor.Lx

def fS (x : Int) : Int := Int.fdiv (wr .i64 (Int.mul x (Int.ofNat (2 ^ (min 1 64))))) (Int.ofNat (2 ^ (min 1 64)))
theorem fS_id {x : Int} (h : 0 ≤ x ∧ x ≤ 1152921504606846976) : fS x = x := by
  unfold fS
  have e1 : Int.mul x (Int.ofNat (2 ^ (min 1 64))) = x * 2 := rfl
  have e2 : wr .i64 (x * 2) = x * 2 := by rw [wr_eq]; exact wrap_i64_in (by omega) (by omega)
  rw [e1, e2]
  have e3 : Int.fdiv (x * 2) (Int.ofNat (2 ^ (min 1 64))) = x := by
    show Int.fdiv (x * 2) 2 = x
    rw [Int.fdiv_eq_ediv_of_nonneg _ (by omega)]
    omega
  exact e3
theorem add_id {a b : Int} (ha : okN a) (hb : okN b) : fS (wr .i64 (Int.add b a)) = wr .i64 (Int.add b a) := by
  unfold okN at ha hb
  have e1 : wr .i64 (Int.add b a) = b + a := by
    show wr .i64 (b + a) = b + a
    rw [wr_eq]; exact wrap_i64_in (by omega) (by omega)
  rw [e1]
  exact fS_id (by omega)
noncomputable def nX (a b : Int) : Int := fS (wr .i64 (Int.mul a (wr .i64 (Int.add b a))))
theorem S2_n (a b : Int) : isN (S2 a b) = true := by kernel_rfl
theorem S3_n (a b : Int) : isN (S3 a b) = true := by kernel_rfl
theorem S4_n (a b : Int) : isN (S4 a b) = true := by kernel_rfl
theorem S5_n (a b : Int) : isN (S5 a b) = true := by kernel_rfl
theorem S6_n (a b : Int) : isN (S6 a b) = true := by kernel_rfl
theorem S7_n (a b : Int) : isN (S7 a b) = true := by kernel_rfl
theorem S8_n (a b : Int) : isN (S8 a b) = true := by kernel_rfl
theorem S9_n (a b : Int) : isN (S9 a b) = true := by kernel_rfl
theorem S10_n (a b : Int) : isN (S10 a b) = true := by kernel_rfl
theorem S2_c (a b : Int) : cdL EW 10 93 (codeAt Tryz.f10 [1, 1, 0]) (TR1 a b) (HR1 a b) = some (.normal, exTm (S2 a b), exH (S2 a b)) := by
  have h := S2_n a b
  unfold S2 at h ⊢
  exact cdN h
theorem S3_c (a b : Int) : cdL EW 10 93 (codeAt Tryz.f10 [1, 1, 1, 0]) (exTm (S2 a b)) (exH (S2 a b)) = some (.normal, exTm (S3 a b), exH (S3 a b)) := by
  have h := S3_n a b
  unfold S3 at h ⊢
  exact cdN h
theorem S4_c (a b : Int) : cdL EW 10 93 (codeAt Tryz.f10 [1, 1, 1, 1, 0]) (exTm (S3 a b)) (exH (S3 a b)) = some (.normal, exTm (S4 a b), exH (S4 a b)) := by
  have h := S4_n a b
  unfold S4 at h ⊢
  exact cdN h
theorem S5_c (a b : Int) : cdL EW 10 93 (codeAt Tryz.f10 [1, 1, 1, 1, 1, 0]) (exTm (S4 a b)) (exH (S4 a b)) = some (.normal, exTm (S5 a b), exH (S5 a b)) := by
  have h := S5_n a b
  unfold S5 at h ⊢
  exact cdN h
theorem S6_c (a b : Int) : cdL EW 10 93 (codeAt Tryz.f10 [1, 1, 1, 1, 1, 1, 0]) (exTm (S5 a b)) (exH (S5 a b)) = some (.normal, exTm (S6 a b), exH (S6 a b)) := by
  have h := S6_n a b
  unfold S6 at h ⊢
  exact cdN h
theorem S7_c (a b : Int) : cdL EW 10 93 (codeAt Tryz.f10 [1, 1, 1, 1, 1, 1, 1, 0]) (exTm (S6 a b)) (exH (S6 a b)) = some (.normal, exTm (S7 a b), exH (S7 a b)) := by
  have h := S7_n a b
  unfold S7 at h ⊢
  exact cdN h
theorem S8_c (a b : Int) : cdL EW 10 93 (codeAt Tryz.f10 [1, 1, 1, 1, 1, 1, 1, 1, 0]) (exTm (S7 a b)) (exH (S7 a b)) = some (.normal, exTm (S8 a b), exH (S8 a b)) := by
  have h := S8_n a b
  unfold S8 at h ⊢
  exact cdN h
theorem S9_c (a b : Int) : cdL EW 10 93 (codeAt Tryz.f10 [1, 1, 1, 1, 1, 1, 1, 1, 1, 0]) (exTm (S8 a b)) (exH (S8 a b)) = some (.normal, exTm (S9 a b), exH (S9 a b)) := by
  have h := S9_n a b
  unfold S9 at h ⊢
  exact cdN h
theorem S10_c (a b : Int) : cdL EW 10 93 (codeAt Tryz.f10 [1, 1, 1, 1, 1, 1, 1, 1, 1, 1, 0]) (exTm (S9 a b)) (exH (S9 a b)) = some (.normal, exTm (S10 a b), exH (S10 a b)) := by
  have h := S10_n a b
  unfold S10 at h ⊢
  exact cdN h
theorem T13 (a b : Int) : (exTm (S10 a b)).get 13 = some (.ptr (some (203, 0))) := by kernel_rfl
theorem T12 (a b : Int) : (exTm (S10 a b)).get 12 = some (.ptr (some (200, 0))) := by kernel_rfl
theorem T11 (a b : Int) : (exTm (S10 a b)).get 11 = some (.ptr (some (198, 0))) := by kernel_rfl
theorem T4 (a b : Int) : (exTm (S10 a b)).get 4 = some (.ptr (some (2, 0))) := by kernel_rfl
theorem H203 (a b : Int) : (exH (S10 a b)).t.get 203 = some (.cells [.bool true, .int .i64 (fS (wr .i64 (Int.mul a (fS (wr .i64 (Int.add b a))))))]) := by kernel_rfl
theorem H200 (a b : Int) : (exH (S10 a b)).t.get 200 = some (.cells [.map (some 199), .sl .full []]) := by kernel_rfl
theorem H198 (a b : Int) : (exH (S10 a b)).t.get 198 = some (.cells [.int .i64 0, .bool false, .int .i64 0, .sl .full [], .int .i64 0, .str [], .int .i64 0, .int .i64 0, .int .i64 5]) := by kernel_rfl
theorem H2 (a b : Int) : (exH (S10 a b)).t.get 2 = some (.cells [.int .i64 0, .bool false, .int .i64 0, .sl .full [], .int .i64 0, .str [], .int .i64 0, .int .i64 0, .int .i64 0]) := by kernel_rfl
theorem body22 : Tryz.f22.body = some (codeAt Tryz.f22 []) := rfl
theorem clip0 (h : H) : evL EW 22 [.sl .full []] h = some (.sl .full [], h) := by
  rw [evL_fn EW (by kernel_rfl) (by kernel_rfl) body22 _ _ rfl]
  have hty := zty
  have hpl := zpl
  generalize EW = E at *
  simp only [codeAt, sub, Tryz.f22]
  simp [EVT, endL, evSeq, evOne, evAct, evOp, opKind, evPure, evRead, evNew, evWrite, evSlice, natOf, optVal, readAt, AV.cells, wantedA, putTm, val, allVals, evBin, evInt, evStr, evAppend, evMin, nilCmp, denseFrom, sizesAre, onesIn, evPlan, recheck, H.new, H.put, fillF, fillAt, allOne, AV.one, setArgs, evRes, resOf, ofVal, ofVal0, isShift, ikBeq, TYC, hty, hpl]
/-- What Run answers. -/
noncomputable def resA (a b : Int) : AV := .agg [.int .i64 1, .bool true, .int .i64 (nX a b), .sl .full [], .int .i64 0, .str [], .int .i64 0, .int .i64 0, .int .i64 5]
theorem S11_c {a b : Int} (ha : okN a) (hb : okN b) : ∃ tm h, cdL EW 10 93 (codeAt Tryz.f10 [1, 1, 1, 1, 1, 1, 1, 1, 1, 1, 1]) (exTm (S10 a b)) (exH (S10 a b)) = some (.ret, tm, h) ∧ tm.get 4 = some (.ptr (some (2, 0))) ∧ h.t.get 2 = some (.cells [.int .i64 1, .bool true, .int .i64 (nX a b), .sl .full [], .int .i64 0, .str [], .int .i64 0, .int .i64 0, .int .i64 5]) := by
  have t13 := T13 a b
  have t12 := T12 a b
  have t11 := T11 a b
  have t4 := T4 a b
  have h203 := H203 a b
  have h200 := H200 a b
  have h198 := H198 a b
  have h2 := H2 a b
  rw [add_id ha hb, show fS (wr .i64 (Int.mul a (wr .i64 (Int.add b a)))) = nX a b from rfl] at h203
  generalize nX a b = n at *
  generalize exTm (S10 a b) = t at *
  generalize exH (S10 a b) = hh at *
  have k := clip0
  have hty := zty
  have hpl := zpl
  generalize EW = E at *
  obtain ⟨y, hy⟩ : ∃ y, cdL E 10 93 (codeAt Tryz.f10 [1, 1, 1, 1, 1, 1, 1, 1, 1, 1, 1]) t hh = y := ⟨_, rfl⟩
  rw [hy]
  simp only [codeAt, condAt, sub, Tryz.f10] at hy
  simp [EVT, endL, evSeq, evOne, evAct, evOp, opKind, evPure, evRead, evNew, evWrite, evSlice, natOf, optVal, readAt, AV.cells, wantedA, putTm, val, allVals, evBin, evInt, evStr, evAppend, evMin, nilCmp, denseFrom, sizesAre, onesIn, evPlan, recheck, H.new, H.put, fillF, fillAt, allOne, AV.one, setArgs, evRes, resOf, ofVal, ofVal0, isShift, ikBeq, TYC, hty, hpl, t13, t12, t11, t4, h203, h200, h198, h2, k] at hy

  exact ⟨_, _, hy.symm, by simp [T.get_set_ite, t4], by simp [T.get_set_ite]⟩
end Go.Proofs.YtncccgglillmoaaGreatDoor.Env
/- SemWraps answers true. -/
set_option maxHeartbeats 4000000
namespace Go.Proofs.YtncccgglillmoaaGreatDoor.Env
open Go.Ev Go.Ev.Nd Go.Proofs.YtncccgglillmoaaGreatDoor.Lx

theorem body10w : Tryz.f10.body = some (.seq (codeAt Tryz.f10 [0]) (.seq (codeAt Tryz.f10 [1, 0]) (.seq (codeAt Tryz.f10 [1, 1, 0]) (.seq (codeAt Tryz.f10 [1, 1, 1, 0]) (.seq (codeAt Tryz.f10 [1, 1, 1, 1, 0]) (.seq (codeAt Tryz.f10 [1, 1, 1, 1, 1, 0]) (.seq (codeAt Tryz.f10 [1, 1, 1, 1, 1, 1, 0]) (.seq (codeAt Tryz.f10 [1, 1, 1, 1, 1, 1, 1, 0]) (.seq (codeAt Tryz.f10 [1, 1, 1, 1, 1, 1, 1, 1, 0]) (.seq (codeAt Tryz.f10 [1, 1, 1, 1, 1, 1, 1, 1, 1, 0]) (.seq (codeAt Tryz.f10 [1, 1, 1, 1, 1, 1, 1, 1, 1, 1, 0]) (codeAt Tryz.f10 [1, 1, 1, 1, 1, 1, 1, 1, 1, 1, 1])))))))))))) := rfl
theorem R0_c (a b : Int) : cdL EW 10 93 (codeAt Tryz.f10 [0]) (setArgs 0 [nodA a b, .int .i64 9] .e) (exH (A2 a b)) = some (.normal, exTm (R0 a b), exH (R0 a b)) := by
  have h := R0_n a b
  unfold R0 at h ⊢
  exact cdN h
theorem run_wr {a b : Int} (ha : okN a) (hb : okN b) : ∃ h, evL EW 10 [nodA a b, .int .i64 9] (exH (A2 a b)) = some (resA a b, h) := by
  obtain ⟨tm, h, e, t4, h2⟩ := S11_c ha hb
  refine ⟨h, ?_⟩
  rw [evL_fn EW (by kernel_rfl) (by kernel_rfl) body10w _ _ rfl]
  have E : cdL EW 10 93 (.seq (codeAt Tryz.f10 [0]) (.seq (codeAt Tryz.f10 [1, 0]) (.seq (codeAt Tryz.f10 [1, 1, 0]) (.seq (codeAt Tryz.f10 [1, 1, 1, 0]) (.seq (codeAt Tryz.f10 [1, 1, 1, 1, 0]) (.seq (codeAt Tryz.f10 [1, 1, 1, 1, 1, 0]) (.seq (codeAt Tryz.f10 [1, 1, 1, 1, 1, 1, 0]) (.seq (codeAt Tryz.f10 [1, 1, 1, 1, 1, 1, 1, 0]) (.seq (codeAt Tryz.f10 [1, 1, 1, 1, 1, 1, 1, 1, 0]) (.seq (codeAt Tryz.f10 [1, 1, 1, 1, 1, 1, 1, 1, 1, 0]) (.seq (codeAt Tryz.f10 [1, 1, 1, 1, 1, 1, 1, 1, 1, 1, 0]) (codeAt Tryz.f10 [1, 1, 1, 1, 1, 1, 1, 1, 1, 1, 1])))))))))))) (setArgs 0 [nodA a b, .int .i64 9] .e) (exH (A2 a b)) = some (.ret, tm, h) :=
    (seqN (R0_c a b)).trans ((seqN (R1 ha hb)).trans ((seqN (S2_c a b)).trans ((seqN (S3_c a b)).trans ((seqN (S4_c a b)).trans ((seqN (S5_c a b)).trans ((seqN (S6_c a b)).trans ((seqN (S7_c a b)).trans ((seqN (S8_c a b)).trans ((seqN (S9_c a b)).trans ((seqN (S10_c a b)).trans e))))))))))
  refine (congrArg (endL EW.ty Tryz.f10.results.toList) E).trans ?_
  have hty := zty
  generalize EW = E' at *
  show endL E'.ty [.cell 4 36] (some (.ret, tm, h)) = _
  simp [EVT, endL, evSeq, evOne, evAct, evOp, opKind, evPure, evRead, evNew, evWrite, evSlice, natOf, optVal, readAt, AV.cells, wantedA, putTm, val, allVals, evBin, evInt, evStr, evAppend, evMin, nilCmp, denseFrom, sizesAre, onesIn, evPlan, recheck, H.new, H.put, fillF, fillAt, allOne, AV.one, setArgs, evRes, resOf, ofVal, ofVal0, isShift, ikBeq, TYC, hty, t4, h2, resA]
theorem A0_c (a b : Int) : cdL EW 4 53 (codeAt Tryz.f4 [0]) (setArgs 0 [.int .i64 a, .int .i64 b] .e) ⟨.e, 0⟩ = some (.normal, exTm (A0 a b), exH (A0 a b)) := by
  have h := A0_n a b
  unfold A0 at h ⊢
  exact cdN h
theorem A2_c (a b : Int) : cdL EW 4 53 (codeAt Tryz.f4 [1, 1, 0]) (B1 a b) (exH (A0 a b)) = some (.normal, exTm (A2 a b), exH (A2 a b)) := by
  have h := A2_n a b
  unfold A2 at h ⊢
  exact cdN h
theorem A2_0 (a b : Int) : (exTm (A2 a b)).get 0 = some (.int .i64 a) := by kernel_rfl
theorem A2_1 (a b : Int) : (exTm (A2 a b)).get 1 = some (.int .i64 b) := by kernel_rfl
theorem k11W (h : H) : evL EW 11 [] h = some (.bool true, h) := by
  rw [evL_prim EW (by kernel_rfl : EW.prim 11 = some (primBool true))]
  rfl
theorem wraps {a b : Int} (ha : okN a) (hb : okN b) : ∃ h, evL EW 4 [.int .i64 a, .int .i64 b] ⟨.e, 0⟩ = some (.bool true, h) := by
  obtain ⟨h1, k10⟩ := run_wr ha hb
  have k11 := k11W
  rw [evL_fn EW (by kernel_rfl) (by kernel_rfl) body4 _ _ rfl]
  have E1 : cdL EW 4 53 (.seq (codeAt Tryz.f4 [0]) (.seq (codeAt Tryz.f4 [1, 0]) (.seq (codeAt Tryz.f4 [1, 1, 0]) (.seq (codeAt Tryz.f4 [1, 1, 1, 0]) (codeAt Tryz.f4 [1, 1, 1, 1]))))) (setArgs 0 [.int .i64 a, .int .i64 b] .e) ⟨.e, 0⟩ = cdL EW 4 53 (.seq (codeAt Tryz.f4 [1, 1, 1, 0]) (codeAt Tryz.f4 [1, 1, 1, 1])) (exTm (A2 a b)) (exH (A2 a b)) :=
    (seqN (A0_c a b)).trans ((seqN (A1 ha hb)).trans (seqN (A2_c a b)))
  suffices hs : ∃ h, endL EW.ty Tryz.f4.results.toList (cdL EW 4 53 (.seq (codeAt Tryz.f4 [1, 1, 1, 0]) (codeAt Tryz.f4 [1, 1, 1, 1])) (exTm (A2 a b)) (exH (A2 a b))) = some (.bool true, h) by
    obtain ⟨h, e⟩ := hs
    exact ⟨h, (congrArg (endL EW.ty Tryz.f4.results.toList) E1).trans e⟩
  have g0 := A2_0 a b
  have g1 := A2_1 a b
  have g5 := A2_5 a b
  have gh := A2_h a b
  have hr : ∀ x : Int, intBeq x x = true := fun x => intBeq_iff.2 rfl
  have sh1 : ∀ x : Int, evShift .shl .i64 x 1 = some (.int .i64 (wr .i64 (Int.mul x (Int.ofNat (2 ^ (min 1 64)))))) := fun _ => rfl
  have sh2 : ∀ x : Int, evShift .shr .i64 x 1 = some (.int .i64 (Int.fdiv x (Int.ofNat (2 ^ (min 1 64))))) := fun _ => rfl
  simp only [nodA, resA] at k10
  unfold nX fS at k10
  generalize exTm (A2 a b) = t at *
  generalize exH (A2 a b) = hh at *
  have hty := zty
  have hpl := zpl
  generalize EW = E at *
  show ∃ h, endL E.ty [.tmp 4] (cdL E 4 53 (.seq (codeAt Tryz.f4 [1, 1, 1, 0]) (codeAt Tryz.f4 [1, 1, 1, 1])) t hh) = some (.bool true, h)
  simp only [codeAt, condAt, sub, Tryz.f4]
  simp [EVT, endL, evSeq, evOne, evAct, evOp, opKind, evPure, evRead, evNew, evWrite, evSlice, natOf, optVal, readAt, AV.cells, wantedA, putTm, val, allVals, evBin, evInt, evStr, evAppend, evMin, nilCmp, denseFrom, sizesAre, onesIn, evPlan, recheck, H.new, H.put, fillF, fillAt, allOne, AV.one, setArgs, evRes, resOf, ofVal, ofVal0, isShift, ikBeq, TYC, hty, hpl, g0, g1, g5, gh, k10, k11, sh1, sh2, hr, evFlat, cellEq]
theorem out_of {a b : Int} (h : (ltI a 0 || (ltI 576460752303423488 a || (ltI b 0 || ltI 576460752303423488 b))) = true) : ∃ h, evL EW 4 [.int .i64 a, .int .i64 b] ⟨.e, 0⟩ = some (.bool true, h) := by
  have hty := zty
  have hpl := zpl
  obtain ⟨y, hy⟩ : ∃ y, evL EW 4 [.int .i64 a, .int .i64 b] ⟨.e, 0⟩ = y := ⟨_, rfl⟩
  rw [hy]
  rw [evL_fn EW (by kernel_rfl) (by kernel_rfl) body4 _ _ rfl] at hy
  generalize EW = E at *
  simp only [codeAt, condAt, sub, Tryz.f4] at hy
  cases h1 : ltI a 0 with
  | true => simp [EVT, endL, evSeq, evOne, evAct, evOp, opKind, evPure, evRead, evNew, evWrite, evSlice, natOf, optVal, readAt, AV.cells, wantedA, putTm, val, allVals, evBin, evInt, evStr, evAppend, evMin, nilCmp, denseFrom, sizesAre, onesIn, evPlan, recheck, H.new, H.put, fillF, fillAt, allOne, AV.one, setArgs, evRes, resOf, ofVal, ofVal0, isShift, ikBeq, TYC, hty, hpl, h1] at hy; exact ⟨_, hy.symm⟩
  | false =>
  cases h2 : ltI 576460752303423488 a with
  | true => simp [EVT, endL, evSeq, evOne, evAct, evOp, opKind, evPure, evRead, evNew, evWrite, evSlice, natOf, optVal, readAt, AV.cells, wantedA, putTm, val, allVals, evBin, evInt, evStr, evAppend, evMin, nilCmp, denseFrom, sizesAre, onesIn, evPlan, recheck, H.new, H.put, fillF, fillAt, allOne, AV.one, setArgs, evRes, resOf, ofVal, ofVal0, isShift, ikBeq, TYC, hty, hpl, h1, h2] at hy; exact ⟨_, hy.symm⟩
  | false =>
  cases h3 : ltI b 0 with
  | true => simp [EVT, endL, evSeq, evOne, evAct, evOp, opKind, evPure, evRead, evNew, evWrite, evSlice, natOf, optVal, readAt, AV.cells, wantedA, putTm, val, allVals, evBin, evInt, evStr, evAppend, evMin, nilCmp, denseFrom, sizesAre, onesIn, evPlan, recheck, H.new, H.put, fillF, fillAt, allOne, AV.one, setArgs, evRes, resOf, ofVal, ofVal0, isShift, ikBeq, TYC, hty, hpl, h1, h2, h3] at hy; exact ⟨_, hy.symm⟩
  | false =>
  cases h4 : ltI 576460752303423488 b with
  | true => simp [EVT, endL, evSeq, evOne, evAct, evOp, opKind, evPure, evRead, evNew, evWrite, evSlice, natOf, optVal, readAt, AV.cells, wantedA, putTm, val, allVals, evBin, evInt, evStr, evAppend, evMin, nilCmp, denseFrom, sizesAre, onesIn, evPlan, recheck, H.new, H.put, fillF, fillAt, allOne, AV.one, setArgs, evRes, resOf, ofVal, ofVal0, isShift, ikBeq, TYC, hty, hpl, h1, h2, h3, h4] at hy; exact ⟨_, hy.symm⟩
  | false => rw [h1, h2, h3, h4] at h; cases h
theorem wraps_all (a b : Int) : ∃ h, evL EW 4 [.int .i64 a, .int .i64 b] ⟨.e, 0⟩ = some (.bool true, h) := by
  cases h : (ltI a 0 || (ltI 576460752303423488 a || (ltI b 0 || ltI 576460752303423488 b))) with
  | true => exact out_of h
  | false =>
    simp only [Bool.or_eq_false_iff, ltI_eq] at h
    simp at h
    exact wraps (a := a) (b := b) ⟨by omega, by omega⟩ ⟨by omega, by omega⟩
end Go.Proofs.YtncccgglillmoaaGreatDoor.Env
