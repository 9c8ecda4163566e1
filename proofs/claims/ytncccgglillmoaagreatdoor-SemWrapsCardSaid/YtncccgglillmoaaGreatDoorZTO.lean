/- Sizes of expressions. -/
import Derived.Test.YtncccgglillmoaaGreatDoorEwM
import Derived.Test.YtncccgglillmoaaGreatDoorZFacts
import Derived.Test.YtncccgglillmoaaGreatDoorZTN
set_option autoImplicit false
set_option maxRecDepth 100000
set_option linter.unusedSimpArgs false
set_option linter.unusedVariables false
set_option linter.unusedSectionVars false
namespace Go.Proofs.YtncccgglillmoaaGreatDoor.Tr
open Go.Proofs.YtncccgglillmoaaGreatDoor.Env Go.Ev Go.Ev.Nd

mutual
def szF : Nd → Int → Int
  | .mk _ _ _ _ _ ks, m => szL ks m 1
def szL : List Nd → Int → Int → Int
  | [], _, k => k
  | t :: l, m, k => bif ltI k m then szL l m (k + szF t (m - k)) else k
end
theorem szF_eq (t : Nd) (m : Int) : szF t m = szL t.kids m 1 := by cases t; rfl
mutual
theorem szF_le : ∀ (t : Nd) (m : Int), 1 ≤ szF t m ∧ (szF t m ≤ m ∨ szF t m = 1)
  | .mk _ _ _ _ _ ks, m => by
    have := szL_le ks m 1 (Int.le_refl _)
    simp only [szF]
    omega
theorem szL_le : ∀ (l : List Nd) (m k : Int), 1 ≤ k → k ≤ szL l m k ∧ (szL l m k ≤ m ∨ szL l m k = k)
  | [], m, k, _ => by simp [szL]
  | t :: l, m, k, hk => by
    simp only [szL]
    cases hb : ltI k m with
    | false => simp
    | true =>
      have hlt : k < m := by rw [ltI_eq] at hb; simpa using hb
      have h1 := szF_le t (m - k)
      have h2 := szL_le l m (k + szF t (m - k)) (by omega)
      simp only [cond_true]
      omega
end
mutual
theorem szF_size : ∀ (t : Nd) (m : Int), szF t m < m → szF t m = ↑t.size
  | .mk _ _ _ _ _ ks, m, h => by
    simp only [szF, Nd.size] at *
    have := szL_size ks m 1 (Int.le_refl _) h
    rw [this]; push_cast; omega
theorem szL_size : ∀ (l : List Nd) (m k : Int), 1 ≤ k → szL l m k < m → szL l m k = k + ↑(sizes l)
  | [], m, k, _, _ => by simp [szL, sizes]
  | t :: l, m, k, hk, h => by
    simp only [szL, sizes] at *
    cases hb : ltI k m with
    | false =>
      rw [hb] at h
      simp only [cond_false] at h
      have : ¬ k < m := by rw [ltI_eq] at hb; simpa using hb
      exact absurd h this
    | true =>
      have hlt : k < m := by rw [ltI_eq] at hb; simpa using hb
      rw [hb] at h
      simp only [cond_true] at h ⊢
      have h1 := szF_le t (m - k)
      have h2 := szL_le l m (k + szF t (m - k)) (by omega)
      have h3 := szF_size t (m - k) (by omega)
      rw [szL_size l m _ (by omega) h, h3]
      push_cast; omega
end
/-- A node's cells, to look at. -/
theorem nd_cells (t : Nd) : ∃ a b c d e f, t.av = .agg [.str a, .str b, .str c, .int .i64 d, .int .i64 e, .sl .no f] := by cases t; exact ⟨_, _, _, _, _, _, rfl⟩

/-! ### the reference's size -/
noncomputable def b19_0 : Code := loopOf Tryz.f91 0
theorem body19 : Tryz.f91.body = some (.seq (codeAt Tryz.f91 [0]) (.seq (codeAt Tryz.f91 [1, 0]) (.seq (.seq (codeAt Tryz.f91 [1, 1, 0, 0]) (.block 0 (.loop b19_0))) (codeAt Tryz.f91 [1, 1, 1])))) := rfl
theorem loop19 {E : Env} (hty : E.ty = env.ty) (hpl : E.plan = env.plan) {c0 c1 c2 c3 c4 : AV} {ks : List Nd} {m : Int} {d : Nat} (hm : 0 ≤ m ∧ m ≤ 4000) (hl : ks.length ≤ 9223372036854775807) (hf : fits ks) (hd : deps ks ≤ d)
    (hc : ∀ t m h, dep t ≤ d → fit t → 0 ≤ m ∧ m ≤ 4000 → evL E 91 [t.av, .int .i64 m] h = some (.int .i64 (szF t m), h)) :
    ∀ (l : List Nd) (i : Nat) (k : Int) {tm : Tm} {h : H} {x : Option (Ex × Tm × H)}, cdL E 91 31 (.loop b19_0) tm h = x → l = ks.drop i → i ≤ ks.length → 1 ≤ k → (k ≤ m ∨ k = 1) →
    tm.get 1 = some (.int .i64 m) → tm.get 2 = some (.ptr (some (0, 0))) → tm.get 5 = some (.int .i64 k) → tm.get 6 = some (.int .i64 ↑i) → h.t.get 0 = some (.cells [c0, c1, c2, c3, c4, .sl .no (avs ks)]) →
    ∃ tm', x = some (.exit 0, tm', h) ∧ tm'.get 5 = some (.int .i64 (szL l m k))
  | [], i, k, tm, h, x, hx, hd, hi, hk, hk2, h1, h2, h5, h6, hz => by
    have hlen := dnil hd hi
    have hl2 := avs_len ks
    rw [hlen] at hl2
    obtain ⟨R, hR, hx⟩ := loop_step hx
    simp [b19_0, loopOf, Tryz.f91, loops, EVT, endL, evSeq, evOne, evAct, evOp, opKind, evPure, evRead, evNew, evWrite, evSlice, natOf, optVal, readAt, AV.cells, wantedA, putTm, val, allVals, evBin, evInt, evStr, evAppend, evMin, nilCmp, denseFrom, sizesAre, onesIn, evPlan, recheck, H.new, H.put, fillF, fillAt, allOne, AV.one, setArgs, evRes, resOf, ofVal, ofVal0, isShift, ikBeq, TYC, lp, hty, hpl, h1, h2, h5, h6, hz, hl2, ltI_f] at hx
    exact ⟨_, by rw [← hx], by simp [T.get_set_ite, h5, szL]⟩
  | t :: l, i, k, tm, h, x, hx, hdr, hi, hk, hk2, h1, h2, h5, h6, hz => by
    obtain ⟨hlt, hct, hd'⟩ := dcons hdr
    have hl2 := avs_len ks
    have hat := avs_get hct
    have htm := List.mem_of_getElem? hct
    obtain ⟨R, hR, hx⟩ := loop_step hx
    have hlt' := ltI_t hlt
    have hw := wr_succ (i := i) (by omega)
    cases hb : ltI k m with
    | false =>
      simp [b19_0, loopOf, Tryz.f91, loops, EVT, endL, evSeq, evOne, evAct, evOp, opKind, evPure, evRead, evNew, evWrite, evSlice, natOf, optVal, readAt, AV.cells, wantedA, putTm, val, allVals, evBin, evInt, evStr, evAppend, evMin, nilCmp, denseFrom, sizesAre, onesIn, evPlan, recheck, H.new, H.put, fillF, fillAt, allOne, AV.one, setArgs, evRes, resOf, ofVal, ofVal0, isShift, ikBeq, TYC, lp, hty, hpl, h1, h2, h5, h6, hz, hl2, hlt', hb] at hx
      exact ⟨_, by rw [← hx], by simp [T.get_set_ite, h5, szL, hb]⟩
    | true =>
      have hkm : k < m := by rw [ltI_eq] at hb; simpa using hb
      have hw1 : wr .i64 (Int.sub m k) = m - k := wrI (by show _ ≤ m - k; omega) (by show m - k < _; omega)
      have hsz := szF_le t (m - k)
      have hw2 : wr .i64 (k + szF t (m - k)) = k + szF t (m - k) := wrI (by omega) (by omega)
      have hcall := fun h => hc t (m - k) h (Nat.le_trans (dep_mem htm) hd) (fits_mem.1 hf t htm) (by omega)
      obtain ⟨a0, a1, a2, a3, a4, a5, ha⟩ := nd_cells t
      rw [ha] at hat hcall
      simp [b19_0, loopOf, Tryz.f91, loops, EVT, endL, evSeq, evOne, evAct, evOp, opKind, evPure, evRead, evNew, evWrite, evSlice, natOf, optVal, readAt, AV.cells, wantedA, putTm, val, allVals, evBin, evInt, evStr, evAppend, evMin, nilCmp, denseFrom, sizesAre, onesIn, evPlan, recheck, H.new, H.put, fillF, fillAt, allOne, AV.one, setArgs, evRes, resOf, ofVal, ofVal0, isShift, ikBeq, TYC, lp, hty, hpl, h1, h2, h5, h6, hz, hl2, hlt', hb, hat, hw1, hcall, hw2, hw] at hx
      rw [hR] at hx
      obtain ⟨tm', g0, g1⟩ := loop19 hty hpl hm hl hf hd hc l (i + 1) (k + szF t (m - k)) hx hd' hlt (by omega) (by omega) (by simp [T.get_set_ite, h1]) (by simp [T.get_set_ite, h2]) (by simp [T.get_set_ite]) (by simp [T.get_set_ite]) hz
      exact ⟨tm', g0, by rw [g1, szL, hb]; rfl⟩
def qsz (d : Nat) (t : Nd) (m : Int) : Prop := dep t ≤ d ∧ fit t ∧ 0 ≤ m ∧ m ≤ 4000
def qsz' (t : Nd) (m : Int) : Prop := fit t ∧ 0 ≤ m ∧ m ≤ 4000
noncomputable abbrev pdSz (d : Nat) := primVal (ofRel (Rel2 (qsz d) szF))
noncomputable abbrev pSz := primVal (ofRel (Rel2 qsz' szF))
theorem pd19_ok : ∀ d, PrimOk Tryz.prog 91 (pdSz d) := prim_rec env_ok (prim_none Tryz.func91 (by kernel_rfl) (by kernel_rfl) (prim_empty fun a b h => by have := dep_pos a; have := h.1; omega)) fun d hE => by
  refine prim2_ok hE (fn := Tryz.f91) (by kernel_rfl) body19 (by kernel_rfl) fun t m hq => ?_
  obtain ⟨hdp, hf, hm⟩ := hq
  have hcall : ∀ t m h, dep t ≤ d → fit t → 0 ≤ m ∧ m ≤ 4000 → evL (addPrim env 91 (pdSz d)) 91 [t.av, .int .i64 m] h = some (.int .i64 (szF t m), h) := fun t m h h1 h2 h3 =>
    prim2_call (a := t) (b := m) (F := szF) (q := qsz d) (by kernel_rfl) (Enc.bare 0 t) (Enc.bare 0 m) ⟨h1, h2, h3⟩ h
  have hty : (addPrim env 91 (pdSz d)).ty = env.ty := rfl
  have hpl : (addPrim env 91 (pdSz d)).plan = env.plan := rfl
  generalize addPrim env 91 (pdSz d) = E at *
  obtain ⟨o, p, q, n, a, ks⟩ := t
  simp only [dep] at hdp
  simp only [fit] at hf
  rw [show (Enc.enc (Nd.mk o p q n a ks) : AV) = (Nd.mk o p q n a ks).av from rfl, show (Enc.enc m : AV) = .int .i64 m from rfl]
  unfold bodyL
  simp only [codeAt, sub, Tryz.f91]
  simp [EVT, endL, evSeq, evOne, evAct, evOp, opKind, evPure, evRead, evNew, evWrite, evSlice, natOf, optVal, readAt, AV.cells, wantedA, putTm, val, allVals, evBin, evInt, evStr, evAppend, evMin, nilCmp, denseFrom, sizesAre, onesIn, evPlan, recheck, H.new, H.put, fillF, fillAt, allOne, AV.one, setArgs, evRes, resOf, ofVal, ofVal0, isShift, ikBeq, TYC, hty, hpl, Nd.av]
  generalize hx : cdL E 91 31 (.loop b19_0) _ _ = x
  obtain ⟨tm', rfl, g5⟩ := loop19 hty hpl (c0 := .str o) (c1 := .str p) (c2 := .str q) (c3 := .int .i64 n) (c4 := .int .i64 a) (ks := ks) (d := d) hm hf.2.2.2.2.2.1 hf.2.2.2.2.2.2 (by omega) hcall ks 0 1 hx rfl (Nat.zero_le _) (by omega) (.inr rfl) (by simp [T.get_set_ite]) (by simp [T.get_set_ite]) (by simp [T.get_set_ite]) (by simp [T.get_set_ite]) (by simp [T.get_set_ite])
  simp [EVT, endL, evSeq, evOne, evAct, evOp, opKind, evPure, evRead, evNew, evWrite, evSlice, natOf, optVal, readAt, AV.cells, wantedA, putTm, val, allVals, evBin, evInt, evStr, evAppend, evMin, nilCmp, denseFrom, sizesAre, onesIn, evPlan, recheck, H.new, H.put, fillF, fillAt, allOne, AV.one, setArgs, evRes, resOf, ofVal, ofVal0, isShift, ikBeq, TYC, hty, hpl, g5, szF, AV.wk, Enc.enc]
theorem p19_ok : PrimOk Tryz.prog 91 pSz := prim_union pd19_ok (union2 fun a b h => ⟨dep a, Nat.le_refl _, h⟩)
/-- Size, no more than 2001. -/
def sizeF (t : Nd) : Int := szF t 2001
noncomputable abbrev pSize := primVal (ofRel (Rel1 fit sizeF))
noncomputable abbrev e19 : Env := addPrim env 91 pSz
theorem p7_ok : PrimOk Tryz.prog 52 pSize := prim1_ok (addPrim_ok env_ok p19_ok) (fn := Tryz.f52) (by kernel_rfl) rfl (by kernel_rfl) fun t hf => by
  have k19 := fun h => prim2_call (E := e19) (f := 91) (a := t) (b := (2001 : Int)) (F := szF) (q := qsz') (by kernel_rfl) (Enc.bare 0 t) (Enc.bare 0 (2001 : Int)) ⟨hf, by omega⟩ h
  have hle := szF_le t 2001
  have hty : e19.ty = env.ty := rfl
  have hpl : e19.plan = env.plan := rfl
  obtain ⟨a0, a1, a2, a3, a4, a5, ha⟩ := nd_cells t
  rw [show (Enc.enc t : AV) = t.av from rfl, show (Enc.enc (2001 : Int) : AV) = .int .i64 2001 from rfl, show (Enc.enc (szF t 2001) : AV) = .int .i64 (szF t 2001) from rfl] at k19
  rw [show (Enc.enc t : AV) = t.av from rfl, show (Enc.enc (sizeF t) : AV) = .int .i64 (szF t 2001) from rfl]
  rw [ha] at k19 ⊢
  generalize szF t 2001 = k at *
  unfold bodyL
  simp only [codeAt, sub, Tryz.f52]
  have hmin : (bif ltI 2001 k then (2001 : Int) else k) = k := by
    cases hb : ltI 2001 k with
    | false => rfl
    | true => rw [ltI_eq] at hb; simp at hb; omega
  simp [EVT, endL, evSeq, evOne, evAct, evOp, opKind, evPure, evRead, evNew, evWrite, evSlice, natOf, optVal, readAt, AV.cells, wantedA, putTm, val, allVals, evBin, evInt, evStr, evAppend, evMin, nilCmp, denseFrom, sizesAre, onesIn, evPlan, recheck, H.new, H.put, fillF, fillAt, allOne, AV.one, setArgs, evRes, resOf, ofVal, ofVal0, isShift, ikBeq, TYC, hty, hpl, k19, hmin, AV.wk]
end Go.Proofs.YtncccgglillmoaaGreatDoor.Tr
/- The reference's names of a node; each; Is. -/
set_option maxHeartbeats 2000000
namespace Go.Proofs.YtncccgglillmoaaGreatDoor.Tr
open Go.Proofs.YtncccgglillmoaaGreatDoor.Env Go.Ev Go.Ev.Nd Go.Proofs.YtncccgglillmoaaGreatDoor.Lx

def strS : List Nat := [115, 116, 114]
def intS : List Nat := [105, 110, 116]
def boolS : List Nat := [98, 111, 111, 108]
def namA (o p : List Nat) : Bool := bif natsBeq o varS || (natsBeq o funS || (natsBeq o letS || natsBeq o tryS)) then nameF p else bif natsBeq o recS || natsBeq o matchS then nameF p else bif natsBeq o strS then okT p else natsBeq p []
def namB (o q : List Nat) : Bool := bif natsBeq o recS || natsBeq o matchS then nameF q else natsBeq q []
def namN (o : List Nat) (n : Int) : Bool := bif natsBeq o intS then !ltI n 0 && !ltI 999999999999999999 n else bif natsBeq o boolS then intBeq n 0 || intBeq n 1 else intBeq n 0
def namesR (t : Nd) : Bool := namA t.op t.name && (namB t.op t.arg && namN t.op t.n)
noncomputable abbrev pNm := primPure (pS lenOk fun s => .bool (nameF s))
noncomputable abbrev pTx := primPure (pS lenOk fun s => .bool (okT s))
theorem p43_ok : PrimOk Tryz.prog 112 pTx := pS_ok env7_ok Tryz.func112 (by kernel_rfl) (by kernel_rfl) fun s hs => ⟨rtext_run s (by have := lenOk_iff.1 hs; omega), rfl, rfl⟩
noncomputable abbrev pNamesR := primVal (ofRel (Rel1 fit namesR))
noncomputable abbrev e4243 : Env := addPrim (addPrim env 140 pNm) 112 pTx
theorem e4243_ok : EnvOk Tryz.prog e4243 := addPrim_ok (addPrim_ok env_ok p42_ok) p43_ok
theorem body33 : Tryz.f132.body = some (codeAt Tryz.f132 []) := rfl
theorem lenOk_of {s : List Nat} (h : okS s) : lenOk s = true := lenOk_iff.2 (by have := h.1; omega)
theorem p33_ok : PrimOk Tryz.prog 132 pNamesR := prim1_ok e4243_ok (fn := Tryz.f132) (by kernel_rfl) body33 (by kernel_rfl) fun t hf => by
  obtain ⟨o, p, q, n, a, ks⟩ := t
  simp only [fit] at hf
  have k42p := fun h => pS_call (E := e4243) (f := 140) (r := fun s => .bool (nameF s)) (by kernel_rfl) h p (lenOk_of hf.2.1)
  have k42q := fun h => pS_call (E := e4243) (f := 140) (r := fun s => .bool (nameF s)) (by kernel_rfl) h q (lenOk_of hf.2.2.1)
  have k43 := fun h => pS_call (E := e4243) (f := 112) (r := fun s => .bool (okT s)) (by kernel_rfl) h p (lenOk_of hf.2.1)
  have hty : e4243.ty = env.ty := rfl
  have hpl : e4243.plan = env.plan := rfl
  show ∃ v' h1, bodyL e4243 132 Tryz.f132 (codeAt Tryz.f132 []) [(Nd.mk o p q n a ks).av] ⟨.e, 0⟩ = some (v', h1) ∧ v'.wk 0 (.bool (namesR (.mk o p q n a ks)))
  unfold bodyL namesR namA namB namN
  simp only [codeAt, sub, Tryz.f132, Nd.op, Nd.name, Nd.arg, Nd.n, Nd.av]
  generalize nameF p = np at *
  generalize nameF q = nq at *
  generalize okT p = tp at *
  generalize hp0 : natsBeq p [] = p0 at *
  generalize hq0 : natsBeq q [] = q0 at *
  by_cases e1 : o = varS
  · subst e1; cases np <;> cases q0 <;> cases h3 : intBeq n 0 <;> simp [EVT, endL, evSeq, evOne, evAct, evOp, opKind, evPure, evRead, evNew, evWrite, evSlice, natOf, optVal, readAt, AV.cells, wantedA, putTm, val, allVals, evBin, evInt, evStr, evAppend, evMin, nilCmp, denseFrom, sizesAre, onesIn, evPlan, recheck, H.new, H.put, fillF, fillAt, allOne, AV.one, setArgs, evRes, resOf, ofVal, ofVal0, isShift, ikBeq, TYC, hty, hpl, natsBeq, bytesOf, varS, funS, letS, tryS, recS, matchS, strS, intS, boolS, k42p, k42q, k43, hp0, hq0, h3, AV.wk]
  by_cases e2 : o = funS
  · subst e2; cases np <;> cases q0 <;> cases h3 : intBeq n 0 <;> simp [EVT, endL, evSeq, evOne, evAct, evOp, opKind, evPure, evRead, evNew, evWrite, evSlice, natOf, optVal, readAt, AV.cells, wantedA, putTm, val, allVals, evBin, evInt, evStr, evAppend, evMin, nilCmp, denseFrom, sizesAre, onesIn, evPlan, recheck, H.new, H.put, fillF, fillAt, allOne, AV.one, setArgs, evRes, resOf, ofVal, ofVal0, isShift, ikBeq, TYC, hty, hpl, natsBeq, bytesOf, varS, funS, letS, tryS, recS, matchS, strS, intS, boolS, k42p, k42q, k43, hp0, hq0, h3, AV.wk]
  by_cases e3 : o = letS
  · subst e3; cases np <;> cases q0 <;> cases h3 : intBeq n 0 <;> simp [EVT, endL, evSeq, evOne, evAct, evOp, opKind, evPure, evRead, evNew, evWrite, evSlice, natOf, optVal, readAt, AV.cells, wantedA, putTm, val, allVals, evBin, evInt, evStr, evAppend, evMin, nilCmp, denseFrom, sizesAre, onesIn, evPlan, recheck, H.new, H.put, fillF, fillAt, allOne, AV.one, setArgs, evRes, resOf, ofVal, ofVal0, isShift, ikBeq, TYC, hty, hpl, natsBeq, bytesOf, varS, funS, letS, tryS, recS, matchS, strS, intS, boolS, k42p, k42q, k43, hp0, hq0, h3, AV.wk]
  by_cases e4 : o = tryS
  · subst e4; cases np <;> cases q0 <;> cases h3 : intBeq n 0 <;> simp [EVT, endL, evSeq, evOne, evAct, evOp, opKind, evPure, evRead, evNew, evWrite, evSlice, natOf, optVal, readAt, AV.cells, wantedA, putTm, val, allVals, evBin, evInt, evStr, evAppend, evMin, nilCmp, denseFrom, sizesAre, onesIn, evPlan, recheck, H.new, H.put, fillF, fillAt, allOne, AV.one, setArgs, evRes, resOf, ofVal, ofVal0, isShift, ikBeq, TYC, hty, hpl, natsBeq, bytesOf, varS, funS, letS, tryS, recS, matchS, strS, intS, boolS, k42p, k42q, k43, hp0, hq0, h3, AV.wk]
  by_cases e5 : o = recS
  · subst e5; cases np <;> cases nq <;> cases h3 : intBeq n 0 <;> simp [EVT, endL, evSeq, evOne, evAct, evOp, opKind, evPure, evRead, evNew, evWrite, evSlice, natOf, optVal, readAt, AV.cells, wantedA, putTm, val, allVals, evBin, evInt, evStr, evAppend, evMin, nilCmp, denseFrom, sizesAre, onesIn, evPlan, recheck, H.new, H.put, fillF, fillAt, allOne, AV.one, setArgs, evRes, resOf, ofVal, ofVal0, isShift, ikBeq, TYC, hty, hpl, natsBeq, bytesOf, varS, funS, letS, tryS, recS, matchS, strS, intS, boolS, k42p, k42q, k43, hp0, hq0, h3, AV.wk]
  by_cases e6 : o = matchS
  · subst e6; cases np <;> cases nq <;> cases h3 : intBeq n 0 <;> simp [EVT, endL, evSeq, evOne, evAct, evOp, opKind, evPure, evRead, evNew, evWrite, evSlice, natOf, optVal, readAt, AV.cells, wantedA, putTm, val, allVals, evBin, evInt, evStr, evAppend, evMin, nilCmp, denseFrom, sizesAre, onesIn, evPlan, recheck, H.new, H.put, fillF, fillAt, allOne, AV.one, setArgs, evRes, resOf, ofVal, ofVal0, isShift, ikBeq, TYC, hty, hpl, natsBeq, bytesOf, varS, funS, letS, tryS, recS, matchS, strS, intS, boolS, k42p, k42q, k43, hp0, hq0, h3, AV.wk]
  by_cases e7 : o = strS
  · subst e7; cases tp <;> cases q0 <;> cases h3 : intBeq n 0 <;> simp [EVT, endL, evSeq, evOne, evAct, evOp, opKind, evPure, evRead, evNew, evWrite, evSlice, natOf, optVal, readAt, AV.cells, wantedA, putTm, val, allVals, evBin, evInt, evStr, evAppend, evMin, nilCmp, denseFrom, sizesAre, onesIn, evPlan, recheck, H.new, H.put, fillF, fillAt, allOne, AV.one, setArgs, evRes, resOf, ofVal, ofVal0, isShift, ikBeq, TYC, hty, hpl, natsBeq, bytesOf, varS, funS, letS, tryS, recS, matchS, strS, intS, boolS, k42p, k42q, k43, hp0, hq0, h3, AV.wk]
  by_cases e8 : o = intS
  · subst e8; cases p0 <;> cases q0 <;> cases h3 : ltI n 0 <;> cases h4 : ltI 999999999999999999 n <;> simp [EVT, endL, evSeq, evOne, evAct, evOp, opKind, evPure, evRead, evNew, evWrite, evSlice, natOf, optVal, readAt, AV.cells, wantedA, putTm, val, allVals, evBin, evInt, evStr, evAppend, evMin, nilCmp, denseFrom, sizesAre, onesIn, evPlan, recheck, H.new, H.put, fillF, fillAt, allOne, AV.one, setArgs, evRes, resOf, ofVal, ofVal0, isShift, ikBeq, TYC, hty, hpl, natsBeq, bytesOf, varS, funS, letS, tryS, recS, matchS, strS, intS, boolS, k42p, k42q, k43, hp0, hq0, h3, h4, AV.wk]
  by_cases e9 : o = boolS
  · subst e9; cases p0 <;> cases q0 <;> cases h3 : intBeq n 0 <;> cases h4 : intBeq n 1 <;> simp [EVT, endL, evSeq, evOne, evAct, evOp, opKind, evPure, evRead, evNew, evWrite, evSlice, natOf, optVal, readAt, AV.cells, wantedA, putTm, val, allVals, evBin, evInt, evStr, evAppend, evMin, nilCmp, denseFrom, sizesAre, onesIn, evPlan, recheck, H.new, H.put, fillF, fillAt, allOne, AV.one, setArgs, evRes, resOf, ofVal, ofVal0, isShift, ikBeq, TYC, hty, hpl, natsBeq, bytesOf, varS, funS, letS, tryS, recS, matchS, strS, intS, boolS, k42p, k42q, k43, hp0, hq0, h3, h4, AV.wk]
  replace e1 := nb_no e1
  replace e2 := nb_no e2
  replace e3 := nb_no e3
  replace e4 := nb_no e4
  replace e5 := nb_no e5
  replace e6 := nb_no e6
  replace e7 := nb_no e7
  replace e8 := nb_no e8
  replace e9 := nb_no e9
  simp only [varS, funS, letS, tryS, recS, matchS, strS, intS, boolS] at e1 e2 e3 e4 e5 e6 e7 e8 e9
  cases p0 <;> cases q0 <;> cases h3 : intBeq n 0 <;> simp [EVT, endL, evSeq, evOne, evAct, evOp, opKind, evPure, evRead, evNew, evWrite, evSlice, natOf, optVal, readAt, AV.cells, wantedA, putTm, val, allVals, evBin, evInt, evStr, evAppend, evMin, nilCmp, denseFrom, sizesAre, onesIn, evPlan, recheck, H.new, H.put, fillF, fillAt, allOne, AV.one, setArgs, evRes, resOf, ofVal, ofVal0, isShift, ikBeq, TYC, hty, hpl, bytesOf, varS, funS, letS, tryS, recS, matchS, strS, intS, boolS, e1, e2, e3, e4, e5, e6, e7, e8, e9, hp0, hq0, h3, AV.wk]
end Go.Proofs.YtncccgglillmoaaGreatDoor.Tr
