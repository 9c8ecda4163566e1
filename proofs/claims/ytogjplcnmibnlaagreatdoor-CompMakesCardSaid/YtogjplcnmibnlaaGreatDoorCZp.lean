/- An expression that is one, in an env of its free names, is what the reference's maker asks for. -/
import Derived.Test.YtogjplcnmibnlaaGreatDoorCZn
import Derived.Test.YtogjplcnmibnlaaGreatDoorCZp0
set_option autoImplicit false
set_option maxRecDepth 100000
set_option linter.unusedSimpArgs false
set_option linter.unusedVariables false
set_option linter.unusedSectionVars false
set_option maxHeartbeats 4000000
namespace Go.Proofs.YtogjplcnmibnlaaGreatDoor.Env
open Go.Ev Go.Ev.Nd

def leafO (o : List Nat) : Bool := natsBeq o oInt || natsBeq o oBool || natsBeq o oUnit || natsBeq o oNil || natsBeq o oStr || natsBeq o oVar
theorem leafO_some {o p : List Nat} {n : Int} {en S : List Str} (h : leafO o = true) : (leafG o p n en S).isSome = true := by
  unfold leafO at h
  unfold leafG
  cases c1 : natsBeq o oInt <;> cases c2 : natsBeq o oBool <;> cases c3 : natsBeq o oUnit <;> cases c4 : natsBeq o oNil <;> cases c5 : natsBeq o oStr <;> cases c6 : natsBeq o oVar <;> simp_all
def opChk (o : List Nat) : Bool := leafO o || ((arity o).isSome || intBeq (opJ o) (opI o))
theorem chk0 : Tr.ops0.all opChk = true := by kernel_rfl
theorem chk1 : Tr.ops1.all opChk = true := by kernel_rfl
theorem chk2 : Tr.ops2.all opChk = true := by kernel_rfl
theorem chk3 : Tr.ops3.all opChk = true := by kernel_rfl
theorem chk_in {o : List Nat} {L : List (List Nat)} (h : Tr.inO o L = true) (hL : L.all opChk = true) : opChk o = true := by
  obtain ⟨x, hx, e⟩ := List.any_eq_true.1 h
  rw [nb_of e]
  exact List.all_eq_true.1 hL x hx
theorem op_known {o : List Nat} {n : Nat} (h : Tr.kidsF o = ↑n) : opChk o = true := by
  unfold Tr.kidsF at h
  cases h0 : Tr.inO o Tr.ops0 with
  | true => exact chk_in h0 chk0
  | false =>
  cases h1 : Tr.inO o Tr.ops1 with
  | true => exact chk_in h1 chk1
  | false =>
  cases h2 : Tr.inO o Tr.ops2 with
  | true => exact chk_in h2 chk2
  | false =>
  cases h3 : Tr.inO o Tr.ops3 with
  | true => exact chk_in h3 chk3
  | false =>
    rw [h0, h1, h2, h3] at h
    simp only [cond_false] at h
    omega
theorem free_kids {o p q : List Nat} : ∀ (ks : List Nd) (i j : Nat) (k : Nd) (x : Str), ks[j]? = some k → x ∈ Tr.freeT k → hasS (Tr.bindT o p q ↑(i + j)) x.s = false → x ∈ Tr.freeTL o p q i ks
  | [], i, j, k, x, hk, hx, hb => by simp at hk
  | a :: l, i, 0, k, x, hk, hx, hb => by
    simp at hk
    subst hk
    simp only [Tr.freeTL, List.mem_append]
    refine .inl (List.mem_filter.2 ⟨hx, ?_⟩)
    simp only [Nat.add_zero] at hb
    rw [hb]; rfl
  | a :: l, i, j + 1, k, x, hk, hx, hb => by
    simp only [Tr.freeTL, List.mem_append]
    refine .inr (free_kids l (i + 1) j k x (by simpa using hk) hx ?_)
    rw [show i + 1 + j = i + (j + 1) by omega]
    exact hb
theorem bind_bi (t : Nd) (i : Nat) (x : Str) (h : hasS (Tr.bindT t.op t.name t.arg ↑i) x.s = true) : hasS (bi t i) x.s = true := by
  have e1 : ∀ n : Nat, intBeq ↑i (↑n : Int) = Nat.beq i n := fun n => by
    cases hb : Nat.beq i n with
    | true => rw [beq_nat.1 hb]; exact intBeq_iff.2 rfl
    | false =>
      cases hc : intBeq ↑i (↑n : Int) with
      | false => rfl
      | true =>
        have := intBeq_iff.1 hc
        have : i = n := by omega
        rw [this, beq_nat.2 rfl] at hb
        cases hb
  have i0 : intBeq ↑i 0 = Nat.beq i 0 := e1 0
  have i1 : intBeq ↑i 1 = Nat.beq i 1 := e1 1
  have i2 : intBeq ↑i 2 = Nat.beq i 2 := e1 2
  unfold Tr.bindT at h
  unfold bi
  rw [i0, i1, i2] at h
  cases c0 : natsBeq t.op oFun with
  | true => rw [show Tr.funS = oFun from rfl, c0] at h; simpa using h
  | false =>
  rw [show Tr.funS = oFun from rfl, c0] at h
  cases c1 : natsBeq t.op oLet with
  | true =>
    have r : natsBeq t.op Tr.recS = false := by rw [nb_of c1]; rfl
    have m : natsBeq t.op Tr.matchS = false := by rw [nb_of c1]; rfl
    have y : natsBeq t.op Tr.tryS = false := by rw [nb_of c1]; rfl
    rw [show Tr.letS = oLet from rfl, c1, r, m, y] at h
    cases hb : Nat.beq i 1 <;> rw [hb] at h <;> simpa using h
  | false =>
  rw [show Tr.letS = oLet from rfl, c1] at h
  cases c2 : natsBeq t.op oRec with
  | true =>
    have m : natsBeq t.op Tr.matchS = false := by rw [nb_of c2]; rfl
    have y : natsBeq t.op Tr.tryS = false := by rw [nb_of c2]; rfl
    rw [show Tr.recS = oRec from rfl, c2, m, y] at h
    cases hb : Nat.beq i 1 with
    | true =>
      have := beq_nat.1 hb
      subst this
      rw [show Nat.beq 1 0 = false from rfl] at h
      simpa using h
    | false =>
      cases hb0 : Nat.beq i 0 with
      | true => rw [hb0] at h; simp [hasS] at h ⊢; exact h.symm
      | false => rw [hb0] at h; simp [hasS] at h ⊢; exact .inr h
  | false =>
  rw [show Tr.recS = oRec from rfl, c2] at h
  cases c3 : natsBeq t.op oIf with
  | true =>
    have m : natsBeq t.op Tr.matchS = false := by rw [nb_of c3]; rfl
    have y : natsBeq t.op Tr.tryS = false := by rw [nb_of c3]; rfl
    rw [m, y] at h
    simp [hasS] at h
  | false =>
  cases c4 : natsBeq t.op oMatch with
  | true =>
    have y : natsBeq t.op Tr.tryS = false := by rw [nb_of c4]; rfl
    rw [show Tr.matchS = oMatch from rfl, c4, y] at h
    cases hb : Nat.beq i 2 with
    | true => rw [hb] at h; simp [hasS] at h ⊢; exact h.symm
    | false => rw [hb] at h; simp [hasS] at h
  | false =>
  rw [show Tr.matchS = oMatch from rfl, c4] at h
  cases c5 : natsBeq t.op oTry with
  | true =>
    rw [show Tr.tryS = oTry from rfl, c5] at h
    cases hb : Nat.beq i 1 <;> rw [hb] at h <;> simpa using h
  | false =>
    rw [show Tr.tryS = oTry from rfl, c5] at h
    simp [hasS] at h
theorem hasS_app (a b : List Str) (v : List Nat) : hasS (a ++ b) v = (hasS a v || hasS b v) := by simp [hasS]
theorem vd_of : ∀ (d : Nat) (t : Nd) (en : List Str), Tr.eachF t = true → fit t → (∀ x ∈ Tr.freeT t, hasS en x.s = true) → Vd d t en
  | 0, _, _, _, _, _ => trivial
  | d + 1, t, en, he, hf, hx => by
    have hfe := (fit_iff t).1 hf
    have he' := he
    rw [Tr.eachF_eq] at he'
    simp only [Bool.and_eq_true] at he'
    obtain ⟨hk, hn, hl⟩ := he'
    have hk := intBeq_iff.1 hk
    have hch := op_known hk
    refine ⟨⟨fun hu => ?_, fun hv => ?_⟩, fun har hg => ?_, fun i hi => ?_⟩
    · simp only [Tr.namesR, Bool.and_eq_true] at hn
      have h3 := hn.2.2
      have : natsBeq t.op Tr.intS = false ∧ natsBeq t.op Tr.boolS = false := by
        rcases Bool.or_eq_true_iff.1 hu with h | h
        · rw [nb_of h]; exact ⟨rfl, rfl⟩
        · rw [nb_of h]; exact ⟨rfl, rfl⟩
      unfold Tr.namN at h3
      rw [this.1, this.2] at h3
      exact intBeq_iff.1 h3
    · have : Tr.freeT t = [⟨t.name⟩] := by
        cases t with
        | mk o p q n a ks => simp only [Nd.op] at hv; simp only [Tr.freeT, Nd.name, show Tr.varS = oVar from rfl, hv, cond_true]
      exact hx ⟨t.name⟩ (by rw [this]; simp)
    · unfold opChk at hch
      have h1 : leafO t.op = false := by
        cases hlo : leafO t.op with
        | false => rfl
        | true =>
          have := leafO_some (p := t.name) (n := t.n) (en := en) (S := []) hlo
          rw [hg []] at this
          cases this
      rw [h1, har] at hch
      simpa using intBeq_iff.1 (by simpa using hch)
    · have hm := kid_mem hi
      refine vd_of d (kid t i) _ (Tr.eachL_iff.1 hl _ hm) (fits_mem.1 hfe.2.2.2.2.2.2 _ hm) fun x hxk => ?_
      rw [hasS_app]
      cases hb : hasS (bi t i) x.s with
      | true => rfl
      | false =>
        rw [Bool.false_or]
        refine hx x ?_
        have hnb : hasS (Tr.bindT t.op t.name t.arg ↑i) x.s = false := by
          cases hc : hasS (Tr.bindT t.op t.name t.arg ↑i) x.s with
          | false => rfl
          | true => rw [bind_bi t i x hc] at hb; cases hb
        have hin := free_kids (o := t.op) (p := t.name) (q := t.arg) t.kids 0 i (kid t i) x (kid_get hi) hxk (by rw [Nat.zero_add]; exact hnb)
        have hvar : natsBeq t.op Tr.varS = false := by
          cases hv : natsBeq t.op Tr.varS with
          | false => rfl
          | true =>
            have h0 : Tr.kidsF t.op = 0 := by rw [nb_of hv]; rfl
            rw [h0] at hk
            omega
        have hby := Tr.freeTL_bytes t.op t.name t.arg 0 t.kids hfe.2.2.2.2.2.2
        have e : Tr.freeT t = Tr.sortS (Tr.freeTL t.op t.name t.arg 0 t.kids) := by
          cases t with
          | mk o p q n a ks => simp only [Nd.op] at hvar; simp only [Tr.freeT, Nd.op, Nd.name, Nd.arg, Nd.kids, hvar, cond_false]
        rw [e, Tr.sortS_mem hby]
        exact hin
end Go.Proofs.YtogjplcnmibnlaaGreatDoor.Env
/- CompMakes answers true. -/
set_option maxHeartbeats 8000000
namespace Go.Proofs.YtogjplcnmibnlaaGreatDoor.Env
open Go.Ev Go.Ev.Nd

theorem ofF_eq (t : Nd) (hf : fit t) (en : List Str) : ofF (Tr.isR t) (Tr.freeT t) t en = ofF (Tr.isR t) (Tr.freeRF t) t en := by
  cases his : Tr.isR t with
  | false => rfl
  | true => rw [Tr.free_eq (is_size his).2 hf]
theorem ofF_small (b : Bool) (L : List Str) (t : Nd) (en : List Str) (hb : b = true → t.size ≤ 2000 ∧ arOk t = true) : (ofF b L t en).2.1.length ≤ 1000000 ∧ (∀ c ∈ (ofF b L t en).2.1, c.length ≤ 1000000) ∧ (ofF b L t en).2.2.1.length ≤ 1000000 := by
  unfold ofF
  cases h1 : (!b || (ltI 4 ↑en.length || strangeL L en)) with
  | true => simp
  | false =>
    cases h2 : (ltI 200 ↑(genFn (gen t.dep) t en [] 0).2.length || longL (genFn (gen t.dep) t en [] 0).2) with
    | true => simp
    | false =>
      simp only [cond_false]
      simp only [Bool.or_eq_false_iff, Bool.not_eq_false'] at h1 h2
      obtain ⟨hs, ha⟩ := hb h1.1
      have hlen := gen_len t.dep t en [] 1 0 ha
      refine ⟨?_, fun c hc => ?_, ?_⟩
      · have := h2.1
        rw [ltI_eq] at this
        simp at this
        omega
      · have := List.any_eq_false.1 h2.2 c hc
        rw [Bool.not_eq_true, ltI_eq] at this
        simp at this
        omega
      · have := hlen.1
        simp only [genFn, Nat.zero_add, List.length_nil] at this ⊢
        omega
theorem vd_all (t : Nd) (hf : fit t) (en : List Str) (his : Tr.isR t = true) (hst : strangeL (Tr.freeRF t) en = false) : Vd t.dep t en := by
  obtain ⟨hs, he⟩ := is_size his
  refine vd_of t.dep t en he hf fun x hx => ?_
  rw [Tr.free_eq he hf] at hx
  have := List.any_eq_false.1 hst x hx
  simpa using this
theorem body3 : Tryz.f3.body = some (codeAt Tryz.f3 []) := rfl
theorem law3 (t : Nd) (hf : fit t) (en : List Str) : ∃ h', evL eC 3 [t.av, .sl .no (strs en)] ⟨.e, 0⟩ = some (.bool true, h') := by
  have hty : eC.ty = env.ty := rfl
  have hpl : eC.plan = env.plan := rfl
  have hil := strs_len en
  have k7 := fun h => k7C hf h
  have k11 := k11C
  obtain ⟨y, hy⟩ : ∃ y, evL eC 3 [t.av, .sl .no (strs en)] ⟨.e, 0⟩ = y := ⟨_, rfl⟩
  rw [hy]
  rw [evL_fn eC (eC_none (by simp)) (by kernel_rfl) body3 _ _ rfl] at hy
  simp only [codeAt, condAt, sub, Tryz.f3] at hy
  cases h120 : ltI 120 (Tr.sizeF t) with
  | true =>
    rw [cells_ t] at k7 hy
    generalize eC = E at *
    simp [EVT, endL, evSeq, evOne, evAct, evOp, opKind, evPure, evRead, evNew, evWrite, evSlice, natOf, optVal, readAt, AV.cells, wantedA, putTm, val, allVals, evBin, evInt, evStr, evAppend, evMin, nilCmp, denseFrom, sizesAre, onesIn, evPlan, recheck, H.new, H.put, fillF, fillAt, allOne, AV.one, setArgs, evRes, resOf, ofVal, ofVal0, isShift, ikBeq, TYC, hty, hpl, k7, h120] at hy
    exact ⟨_, hy.symm⟩
  | false =>
  cases h10 : ltI 10 ↑en.length with
  | true =>
    rw [cells_ t] at k7 hy
    generalize eC = E at *
    simp [EVT, endL, evSeq, evOne, evAct, evOp, opKind, evPure, evRead, evNew, evWrite, evSlice, natOf, optVal, readAt, AV.cells, wantedA, putTm, val, allVals, evBin, evInt, evStr, evAppend, evMin, nilCmp, denseFrom, sizesAre, onesIn, evPlan, recheck, H.new, H.put, fillF, fillAt, allOne, AV.one, setArgs, evRes, resOf, ofVal, ofVal0, isShift, ikBeq, TYC, hty, hpl, k7, h120, h10, hil] at hy
    exact ⟨_, hy.symm⟩
  | false =>
    have hen : en.length ≤ 10 := by rw [ltI_eq] at h10; simp at h10; omega
    obtain ⟨h0, hh0⟩ : ∃ h0 : H, h0 = ⟨T.e.set 0 (.cells [.str t.op, .str t.name, .str t.arg, .int .i64 t.n, .int .i64 t.at_, .sl .no (avs t.kids)]), 0 + 1⟩ := ⟨_, rfl⟩
    have b0 : h0.t.get 0 = some (.cells [.str t.op, .str t.name, .str t.arg, .int .i64 t.n, .int .i64 t.at_, .sl .no (avs t.kids)]) := by rw [hh0]; exact T.get_set _ _ _
    have nx0 : h0.nx = 1 := by rw [hh0]
    obtain ⟨h1, v1, k8, n1, g1, p1⟩ := of_run eC_of t hf en .no (by omega) h0
    obtain ⟨h1a, hh1a⟩ : ∃ h1a : H, h1a = ⟨(h1.t.set h1.nx (.cells zeroC)).set h1.nx (.cells v1.cells), h1.nx + 1⟩ := ⟨_, rfl⟩
    have g1a : ∀ j, j < h1.nx → h1a.t.get j = h1.t.get j := fun j hj => by
      rw [hh1a]; simp only [T.get_set_ite]; repeat rw [if_neg (by omega)]
    have nx1a : h1a.nx = h1.nx + 1 := by rw [hh1a]
    have p1a := p1.grow (h' := h1a) (by omega) g1a
    obtain ⟨h2, v2, k9, n2, g2, p2⟩ := of14_run eC_of t hf en .no (by omega) (vd_all t hf en) (fun his => ⟨by have := is_size his; rw [← Tr.free_eq this.2 hf]; have := Tr.freeT_len t; omega, hf, by have := is_size his; omega⟩) h1a
    obtain ⟨h2a, hh2a⟩ : ∃ h2a : H, h2a = ⟨(h2.t.set h2.nx (.cells zeroC)).set h2.nx (.cells v2.cells), h2.nx + 1⟩ := ⟨_, rfl⟩
    have g2a : ∀ j, j < h2.nx → h2a.t.get j = h2.t.get j := fun j hj => by
      rw [hh2a]; simp only [T.get_set_ite]; repeat rw [if_neg (by omega)]
    have nx2a : h2a.nx = h2.nx + 1 := by rw [hh2a]
    have p1b := (p1a.grow (h' := h2) n2 g2).grow (h' := h2a) (by omega) g2a
    have p2b := p2.grow (h' := h2a) (by omega) g2a
    rw [← ofF_eq t hf en] at p2b k9
    obtain ⟨s1, s2, s3⟩ := ofF_small (Tr.isR t) (Tr.freeT t) t en fun his => ⟨(is_size his).1, each_ar t (is_size his).2⟩
    obtain ⟨h3, k10, n3, g3⟩ := same_run eC_of p1b p2b s1 s2 s3
    have b1 : h1.t.get 0 = some (.cells [.str t.op, .str t.name, .str t.arg, .int .i64 t.n, .int .i64 t.at_, .sl .no (avs t.kids)]) := (g1 0 (by omega)).trans b0
    have b1a := (g1a 0 (by omega)).trans b1
    have c2 : h2.t.get h1.nx = some (.cells v1.cells) := by rw [g2 h1.nx (by omega), hh1a]; exact T.get_set _ _ _
    have c2a : h2a.t.get h1.nx = some (.cells v1.cells) := (g2a _ (by omega)).trans c2
    obtain ⟨fv1, w1, F1, e1, r1, _, _⟩ := p1
    obtain ⟨fv2, w2, F2, e2, r2, _, _⟩ := p2
    have o1 := r1.shape
    have o2 := r2.shape
    clear r1 r2
    subst e1
    subst e2
    have hq : intBeq (ofF (Tr.isR t) (Tr.freeT t) t en).2.2.2 (ofF (Tr.isR t) (Tr.freeT t) t en).2.2.2 = true := intBeq_iff.2 rfl
    generalize (ofF (Tr.isR t) (Tr.freeT t) t en).2.2.2 = er at *
    generalize (ofF (Tr.isR t) (Tr.freeT t) t en).2.2.1 = eS at *
    generalize (ofF (Tr.isR t) (Tr.freeRF t) t en).2.2.1 = eS2 at *
    generalize (ofF (Tr.isR t) (Tr.freeT t) t en).1 = eD at *
    generalize (ofF (Tr.isR t) (Tr.freeRF t) t en).1 = eD2 at *
    have z1 : 0 ≠ h1.nx := by omega
    have z2 : h1.nx ≠ h2.nx := by omega
    rw [cells_ t] at k7 k8 k9 hy
    rw [hh0] at k8
    rw [hh1a] at k9
    rw [hh2a] at k10
    simp only [zeroC, AV.cells] at k9 k10 c2 c2a
    generalize eC = E at *
    rcases o1 with rfl | ⟨i1, m1, rfl⟩ <;> rcases o2 with rfl | ⟨i2, m2, rfl⟩ <;> simp [EVT, endL, evSeq, evOne, evAct, evOp, opKind, evPure, evRead, evNew, evWrite, evSlice, natOf, optVal, readAt, AV.cells, wantedA, putTm, val, allVals, evBin, evInt, evStr, evAppend, evMin, nilCmp, denseFrom, sizesAre, onesIn, evPlan, recheck, H.new, H.put, fillF, fillAt, allOne, AV.one, setArgs, evRes, resOf, ofVal, ofVal0, isShift, ikBeq, TYC, hty, hpl, k7, h120, h10, hil, k8, k9, k10, k11, b1, c2, z1, z2, hq] at hy <;> exact ⟨_, hy.symm⟩
end Go.Proofs.YtogjplcnmibnlaaGreatDoor.Env
