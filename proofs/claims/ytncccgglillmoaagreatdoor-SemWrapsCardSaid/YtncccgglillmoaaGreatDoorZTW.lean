/- The reference's each and Is. -/
import Derived.Test.YtncccgglillmoaaGreatDoorZTO
import Derived.Test.YtncccgglillmoaaGreatDoorZTV
set_option autoImplicit false
set_option maxRecDepth 100000
set_option linter.unusedSimpArgs false
set_option linter.unusedVariables false
set_option linter.unusedSectionVars false
set_option maxHeartbeats 1000000
namespace Go.Proofs.YtncccgglillmoaaGreatDoor.Tr
open Go.Proofs.YtncccgglillmoaaGreatDoor.Env Go.Ev Go.Ev.Nd

mutual
def eachF : Nd → Bool
  | .mk o p q n a ks => intBeq (kidsF o) ↑ks.length && (namesR (.mk o p q n a ks) && eachL ks)
def eachL : List Nd → Bool
  | [] => true
  | t :: l => eachF t && eachL l
end
theorem eachF_eq (t : Nd) : eachF t = (intBeq (kidsF t.op) ↑t.kids.length && (namesR t && eachL t.kids)) := by cases t; rfl
theorem eachL_iff : ∀ {l : List Nd}, eachL l = true ↔ ∀ t ∈ l, eachF t = true
  | [] => by simp [eachL]
  | t :: l => by simp [eachL, eachL_iff (l := l)]
noncomputable def b20_0 : Code := loopOf Tryz.f115 0
theorem body20 : Tryz.f115.body = some (.seq (codeAt Tryz.f115 [0]) (.seq (codeAt Tryz.f115 [1, 0]) (.seq (.seq (codeAt Tryz.f115 [1, 1, 0, 0]) (.block 0 (.loop b20_0))) (codeAt Tryz.f115 [1, 1, 1])))) := rfl
theorem loop20 {E : Env} (hty : E.ty = env.ty) (hpl : E.plan = env.plan) {c0 c1 c2 c3 c4 : AV} {ks : List Nd} {d : Nat} (hl : ks.length ≤ 9223372036854775807) (hf : fits ks) (hd : deps ks ≤ d)
    (hc : ∀ t h, dep t ≤ d → fit t → evL E 115 [t.av] h = some (.bool (eachF t), h)) :
    ∀ (l : List Nd) (i : Nat) {tm : Tm} {h : H} {x : Option (Ex × Tm × H)}, cdL E 115 30 (.loop b20_0) tm h = x → l = ks.drop i → i ≤ ks.length →
    tm.get 1 = some (.ptr (some (0, 0))) → tm.get 3 = some (.int .i64 ↑i) → h.t.get 0 = some (.cells [c0, c1, c2, c3, c4, .sl .no (avs ks)]) →
    ∃ tm', x = some (bif eachL l then .exit 0 else .ret, tm', h) ∧ (eachL l = false → tm'.get 2 = some (.bool false))
  | [], i, tm, h, x, hx, hd, hi, h1, h3, hz => by
    have hlen := dnil hd hi
    have hl2 := avs_len ks
    rw [hlen] at hl2
    obtain ⟨R, hR, hx⟩ := loop_step hx
    simp [b20_0, loopOf, Tryz.f115, loops, EVT, endL, evSeq, evOne, evAct, evOp, opKind, evPure, evRead, evNew, evWrite, evSlice, natOf, optVal, readAt, AV.cells, wantedA, putTm, val, allVals, evBin, evInt, evStr, evAppend, evMin, nilCmp, denseFrom, sizesAre, onesIn, evPlan, recheck, H.new, H.put, fillF, fillAt, allOne, AV.one, setArgs, evRes, resOf, ofVal, ofVal0, isShift, ikBeq, TYC, lp, hty, hpl, h1, h3, hz, hl2, ltI_f] at hx
    exact ⟨_, by rw [← hx]; rfl, fun e => by simp [eachL] at e⟩
  | t :: l, i, tm, h, x, hx, hdr, hi, h1, h3, hz => by
    obtain ⟨hlt, hct, hd'⟩ := dcons hdr
    have hl2 := avs_len ks
    have hat := avs_get hct
    have htm := List.mem_of_getElem? hct
    obtain ⟨R, hR, hx⟩ := loop_step hx
    have hlt' := ltI_t hlt
    have hw := wr_succ (i := i) (by omega)
    have hcall := fun h => hc t h (Nat.le_trans (dep_mem htm) hd) (fits_mem.1 hf t htm)
    obtain ⟨a0, a1, a2, a3, a4, a5, ha⟩ := nd_cells t
    rw [ha] at hat hcall
    simp only [eachL]
    cases hb : eachF t with
    | false =>
      simp [b20_0, loopOf, Tryz.f115, loops, EVT, endL, evSeq, evOne, evAct, evOp, opKind, evPure, evRead, evNew, evWrite, evSlice, natOf, optVal, readAt, AV.cells, wantedA, putTm, val, allVals, evBin, evInt, evStr, evAppend, evMin, nilCmp, denseFrom, sizesAre, onesIn, evPlan, recheck, H.new, H.put, fillF, fillAt, allOne, AV.one, setArgs, evRes, resOf, ofVal, ofVal0, isShift, ikBeq, TYC, lp, hty, hpl, h1, h3, hz, hl2, hlt', hat, hcall, hb] at hx
      exact ⟨_, by rw [← hx]; rfl, fun _ => by simp [T.get_set_ite]⟩
    | true =>
      simp [b20_0, loopOf, Tryz.f115, loops, EVT, endL, evSeq, evOne, evAct, evOp, opKind, evPure, evRead, evNew, evWrite, evSlice, natOf, optVal, readAt, AV.cells, wantedA, putTm, val, allVals, evBin, evInt, evStr, evAppend, evMin, nilCmp, denseFrom, sizesAre, onesIn, evPlan, recheck, H.new, H.put, fillF, fillAt, allOne, AV.one, setArgs, evRes, resOf, ofVal, ofVal0, isShift, ikBeq, TYC, lp, hty, hpl, h1, h3, hz, hl2, hlt', hat, hcall, hb, hw] at hx
      rw [hR] at hx
      simp only [Bool.true_and]
      exact loop20 hty hpl hl hf hd hc l (i + 1) hx hd' hlt (by simp [T.get_set_ite, h1]) (by simp [T.get_set_ite]) hz
def qEa (d : Nat) (t : Nd) : Prop := dep t ≤ d ∧ fit t
noncomputable abbrev pdEa (d : Nat) := primVal (ofRel (Rel1 (qEa d) eachF))
noncomputable abbrev pEach := primVal (ofRel (Rel1 fit eachF))
noncomputable abbrev eEa : Env := addPrim (addPrim env 131 pKids) 132 pNamesR
theorem eEa_ok : EnvOk Tryz.prog eEa := addPrim_ok (addPrim_ok env_ok p32_ok) p33_ok
theorem pd20_ok : ∀ d, PrimOk Tryz.prog 115 (pdEa d) := prim_rec eEa_ok (prim_none Tryz.func115 (by kernel_rfl) (by kernel_rfl) (prim_empty1 fun a h => by have := dep_pos a; have := h.1; omega)) fun d hE => by
  refine prim1_ok hE (fn := Tryz.f115) (by kernel_rfl) body20 (by kernel_rfl) fun t hq => ?_
  obtain ⟨hdp, hf⟩ := hq
  have hcall : ∀ t h, dep t ≤ d → fit t → evL (addPrim eEa 115 (pdEa d)) 115 [t.av] h = some (.bool (eachF t), h) := fun t h h1 h2 =>
    prim1_call (a := t) (F := eachF) (q := qEa d) (by kernel_rfl) (Enc.bare 0 t) ⟨h1, h2⟩ h
  have k32 : ∀ o h, evL (addPrim eEa 115 (pdEa d)) 131 [.str o] h = some (.int .i64 (kidsF o), h) := fun o h =>
    prim1_call (a := (⟨o⟩ : Str)) (F := fun s : Str => kidsF s.s) (q := fun _ => True) (by kernel_rfl) (Enc.bare 0 (⟨o⟩ : Str)) trivial h
  have k33 : ∀ h, evL (addPrim eEa 115 (pdEa d)) 132 [t.av] h = some (.bool (namesR t), h) := fun h =>
    prim1_call (a := t) (F := namesR) (q := fit) (by kernel_rfl) (Enc.bare 0 t) hf h
  have hty : (addPrim eEa 115 (pdEa d)).ty = env.ty := rfl
  have hpl : (addPrim eEa 115 (pdEa d)).plan = env.plan := rfl
  generalize addPrim eEa 115 (pdEa d) = E at *
  obtain ⟨o, p, q, n, a, ks⟩ := t
  simp only [dep] at hdp
  simp only [fit] at hf
  have hl2 := avs_len ks
  rw [show (Enc.enc (Nd.mk o p q n a ks) : AV) = (Nd.mk o p q n a ks).av from rfl]
  simp only [eachF]
  generalize namesR (.mk o p q n a ks) = nr at *
  simp only [Nd.av] at k33 ⊢
  unfold bodyL
  simp only [codeAt, sub, Tryz.f115]
  cases hk : intBeq (kidsF o) ↑ks.length with
  | false => simp [EVT, endL, evSeq, evOne, evAct, evOp, opKind, evPure, evRead, evNew, evWrite, evSlice, natOf, optVal, readAt, AV.cells, wantedA, putTm, val, allVals, evBin, evInt, evStr, evAppend, evMin, nilCmp, denseFrom, sizesAre, onesIn, evPlan, recheck, H.new, H.put, fillF, fillAt, allOne, AV.one, setArgs, evRes, resOf, ofVal, ofVal0, isShift, ikBeq, TYC, hty, hpl, k32, hl2, hk, AV.wk, Enc.enc]
  | true =>
    cases nr with
    | false => simp [EVT, endL, evSeq, evOne, evAct, evOp, opKind, evPure, evRead, evNew, evWrite, evSlice, natOf, optVal, readAt, AV.cells, wantedA, putTm, val, allVals, evBin, evInt, evStr, evAppend, evMin, nilCmp, denseFrom, sizesAre, onesIn, evPlan, recheck, H.new, H.put, fillF, fillAt, allOne, AV.one, setArgs, evRes, resOf, ofVal, ofVal0, isShift, ikBeq, TYC, hty, hpl, k32, k33, hl2, hk, AV.wk, Enc.enc]
    | true =>
      simp [EVT, endL, evSeq, evOne, evAct, evOp, opKind, evPure, evRead, evNew, evWrite, evSlice, natOf, optVal, readAt, AV.cells, wantedA, putTm, val, allVals, evBin, evInt, evStr, evAppend, evMin, nilCmp, denseFrom, sizesAre, onesIn, evPlan, recheck, H.new, H.put, fillF, fillAt, allOne, AV.one, setArgs, evRes, resOf, ofVal, ofVal0, isShift, ikBeq, TYC, hty, hpl, k32, k33, hl2, hk]
      generalize hx : cdL E 115 30 (.loop b20_0) _ _ = x
      obtain ⟨tm', rfl, g5⟩ := loop20 hty hpl (c0 := .str o) (c1 := .str p) (c2 := .str q) (c3 := .int .i64 n) (c4 := .int .i64 a) (ks := ks) (d := d) hf.2.2.2.2.2.1 hf.2.2.2.2.2.2 (by omega) hcall ks 0 hx rfl (Nat.zero_le _) (by simp [T.get_set_ite]) (by simp [T.get_set_ite]) (by simp [T.get_set_ite])
      cases he : eachL ks with
      | false => simp [EVT, endL, evSeq, evOne, evAct, evOp, opKind, evPure, evRead, evNew, evWrite, evSlice, natOf, optVal, readAt, AV.cells, wantedA, putTm, val, allVals, evBin, evInt, evStr, evAppend, evMin, nilCmp, denseFrom, sizesAre, onesIn, evPlan, recheck, H.new, H.put, fillF, fillAt, allOne, AV.one, setArgs, evRes, resOf, ofVal, ofVal0, isShift, ikBeq, TYC, hty, hpl, g5 he, AV.wk, Enc.enc]
      | true => simp [EVT, endL, evSeq, evOne, evAct, evOp, opKind, evPure, evRead, evNew, evWrite, evSlice, natOf, optVal, readAt, AV.cells, wantedA, putTm, val, allVals, evBin, evInt, evStr, evAppend, evMin, nilCmp, denseFrom, sizesAre, onesIn, evPlan, recheck, H.new, H.put, fillF, fillAt, allOne, AV.one, setArgs, evRes, resOf, ofVal, ofVal0, isShift, ikBeq, TYC, hty, hpl, AV.wk, Enc.enc]
theorem p20_ok : PrimOk Tryz.prog 115 pEach := prim_union pd20_ok (union1 fun a h => ⟨dep a, Nat.le_refl _, h⟩)
/-- Is. -/
def isR (t : Nd) : Bool := bif ltI 2000 (sizeF t) then false else eachF t
noncomputable abbrev pIsR := primVal (ofRel (Rel1 fit isR))
noncomputable abbrev e720 : Env := addPrim (addPrim env 52 pSize) 115 pEach
theorem e720_ok : EnvOk Tryz.prog e720 := addPrim_ok (addPrim_ok env_ok p7_ok) p20_ok
theorem p8_ok : PrimOk Tryz.prog 92 pIsR := prim1_ok e720_ok (fn := Tryz.f92) (by kernel_rfl) rfl (by kernel_rfl) fun t hf => by
  have k7 : ∀ h, evL e720 52 [t.av] h = some (.int .i64 (sizeF t), h) := fun h => prim1_call (a := t) (F := sizeF) (q := fit) (by kernel_rfl) (Enc.bare 0 t) hf h
  have k20 : ∀ h, evL e720 115 [t.av] h = some (.bool (eachF t), h) := fun h => prim1_call (a := t) (F := eachF) (q := fit) (by kernel_rfl) (Enc.bare 0 t) hf h
  have hty : e720.ty = env.ty := rfl
  have hpl : e720.plan = env.plan := rfl
  obtain ⟨a0, a1, a2, a3, a4, a5, ha⟩ := nd_cells t
  rw [show (Enc.enc t : AV) = t.av from rfl]
  unfold isR
  rw [ha] at k7 k20 ⊢
  generalize sizeF t = k at *
  generalize eachF t = e at *
  unfold bodyL
  simp only [codeAt, sub, Tryz.f92]
  cases hb : ltI 2000 k <;> simp [EVT, endL, evSeq, evOne, evAct, evOp, opKind, evPure, evRead, evNew, evWrite, evSlice, natOf, optVal, readAt, AV.cells, wantedA, putTm, val, allVals, evBin, evInt, evStr, evAppend, evMin, nilCmp, denseFrom, sizesAre, onesIn, evPlan, recheck, H.new, H.put, fillF, fillAt, allOne, AV.one, setArgs, evRes, resOf, ofVal, ofVal0, isShift, ikBeq, TYC, hty, hpl, k7, k20, hb, AV.wk, Enc.enc]
end Go.Proofs.YtncccgglillmoaaGreatDoor.Tr
/- The tree's is and the reference's each are one; Is. -/
set_option maxHeartbeats 4000000
namespace Go.Proofs.YtncccgglillmoaaGreatDoor.Tr
open Go.Proofs.YtncccgglillmoaaGreatDoor.Env Go.Ev Go.Ev.Nd Go.Proofs.YtncccgglillmoaaGreatDoor.Lx

theorem nn_zero (n : Int) : intBeq n 0 = (!ltI n 0 && ltI n 1) := by
  rw [Bool.eq_iff_iff, intBeq_iff]
  simp only [Bool.and_eq_true, Bool.not_eq_true', ltI_eq, decide_eq_true_eq, decide_eq_false_iff_not]
  omega
theorem nn_bool (n : Int) : (intBeq n 0 || intBeq n 1) = (!ltI n 0 && ltI n 2) := by
  rw [Bool.eq_iff_iff, Bool.or_eq_true, intBeq_iff, intBeq_iff]
  simp only [Bool.and_eq_true, Bool.not_eq_true', ltI_eq, decide_eq_true_eq, decide_eq_false_iff_not]
  omega
theorem nn_int (n : Int) : (!ltI n 0 && !ltI 999999999999999999 n) = (!ltI n 0 && ltI n 1000000000000000000) := by
  rw [Bool.eq_iff_iff]
  simp only [Bool.and_eq_true, Bool.not_eq_true', ltI_eq, decide_eq_true_eq, decide_eq_false_iff_not]
  omega
structure SOk (o : List Nat) (s : Sha) : Prop where
  k : kidsF o = s.k
  p : ∀ p q, namT o p q s.a s.b = (namA o p && namB o q)
  n : ∀ n, namN o n = (!ltI n 0 && ltI n (maxI s.l))
theorem sok_all : ∀ e ∈ shL, SOk e.1 e.2 := by
  have A : ∀ (x y : Bool), (bif !x then false else y) = (x && y) := by intro x y; cases x <;> rfl
  have B : ∀ (x y : Bool), (x && y) = (y && x) := by intro x y; cases x <;> cases y <;> rfl
  simp only [shL, List.mem_cons, List.not_mem_nil, or_false, forall_eq_or_imp, forall_eq]
  refine ⟨?_, ?_, ?_, ?_, ?_, ?_, ?_, ?_, ?_, ?_, ?_, ?_, ?_, ?_, ?_, ?_, ?_, ?_, ?_, ?_, ?_, ?_, ?_, ?_, ?_, ?_, ?_, ?_, ?_, ?_, ?_, ?_, ?_, ?_⟩
  case refine_1 => exact ⟨rfl, fun p q => A _ _, fun n => nn_int n⟩
  case refine_2 => exact ⟨rfl, fun p q => A _ _, fun n => nn_bool n⟩
  case refine_5 => exact ⟨rfl, fun p q => B _ _, fun n => nn_zero n⟩
  all_goals exact ⟨rfl, fun p q => A _ _, fun n => nn_zero n⟩
theorem lookS_mem {o : List Nat} : ∀ {l : List (List Nat × Sha)} {s : Sha}, lookS o l = some s → (o, s) ∈ l
  | (k, u) :: l, s, h => by
    simp only [lookS] at h
    cases hb : natsBeq o k with
    | true => rw [hb] at h; simp only [cond_true, Option.some.injEq] at h; rw [Go.Ev.natsBeq_iff.1 hb, h]; exact List.mem_cons_self ..
    | false => rw [hb] at h; exact List.mem_cons_of_mem _ (lookS_mem h)
theorem lookS_none {o : List Nat} : ∀ {l : List (List Nat × Sha)}, lookS o l = none → ∀ x ∈ l.map Prod.fst, natsBeq o x = false
  | [], _, x, hx => by simp at hx
  | (k, u) :: l, h, x, hx => by
    simp only [lookS] at h
    cases hb : natsBeq o k with
    | true => rw [hb] at h; simp at h
    | false =>
      rw [hb] at h
      rcases List.mem_cons.1 hx with rfl | hx
      · exact hb
      · exact lookS_none h x hx
theorem inO_none {o : List Nat} (h : lookS o shL = none) {l : List (List Nat)} (hl : ∀ x ∈ l, x ∈ shL.map Prod.fst) : inO o l = false := by
  unfold inO
  rw [List.any_eq_false]
  intro x hx
  rw [lookS_none h x (hl x hx)]
  simp
theorem kids_none {o : List Nat} (h : lookS o shL = none) : kidsF o = -1 := by
  unfold kidsF
  rw [inO_none h (l := ops0) (by decide), inO_none h (l := ops1) (by decide), inO_none h (l := ops2) (by decide), inO_none h (l := ops3) (by decide)]
  rfl
theorem intBeq_comm (a b : Int) : intBeq a b = intBeq b a := by rw [Bool.eq_iff_iff, intBeq_iff, intBeq_iff]; exact eq_comm
mutual
theorem isT_each : ∀ t : Nd, isT t = eachF t
  | .mk o p q n a ks => by
    simp only [isT, eachF]
    cases h : lookS o shL with
    | none =>
      rw [kids_none h]
      have : intBeq (-1) ↑ks.length = false := by cases hb : intBeq (-1) (↑ks.length : Int) with | false => rfl | true => rw [intBeq_iff] at hb; omega
      rw [this, Bool.false_and]
    | some s =>
      have k := sok_all (o, s) (lookS_mem h)
      simp only at k
      simp only
      unfold namesR
      simp only [Nd.op, Nd.name, Nd.arg, Nd.n]
      rw [k.k, k.p, k.n, isTL_each ks, intBeq_comm]
      cases namA o p <;> cases namB o q <;> cases ltI n 0 <;> cases ltI n (maxI s.l) <;> cases intBeq s.k ↑ks.length <;> rfl
theorem isTL_each : ∀ l : List Nd, isTL l = eachL l
  | [] => rfl
  | t :: l => by rw [isTL, eachL, isT_each t, isTL_each l]
end
theorem shapes_e34 (cs : List AV) : evL e34 56 [] ⟨T.e.set 0 (.cells cs), 1⟩ = some (.map (some 1), hS cs) := evL_of e34 (k := 200) (by kernel_rfl)
noncomputable abbrev pIsT := primVal (ofRel (Rel1 fit isR))
theorem p9_ok : PrimOk Tryz.prog 24 pIsT := prim1_ok e34_ok (fn := Tryz.f24) (by kernel_rfl) rfl (by kernel_rfl) fun t hf => by
  have k12 : ∀ h, evL e34 54 [t.av] h = some (.int .i64 (sizeF t), h) := fun h => prim1_call (a := t) (F := sizeF) (q := fit) (by kernel_rfl) (Enc.bare 0 t) hf h
  have hty : e34.ty = env.ty := rfl
  have hpl : e34.plan = env.plan := rfl
  have k22 := fun cs => shapes_e34 cs
  obtain ⟨h', k21, _⟩ := is_run (m := 1) (dep t) t (hS [.str t.op, .str t.name, .str t.arg, .int .i64 t.n, .int .i64 t.at_, .sl .no (avs t.kids)]) (Nat.le_refl _) hf (hS_1 _) (by rw [hS_n]; omega)
  have hg := hS_0 [.str t.op, .str t.name, .str t.arg, .int .i64 t.n, .int .i64 t.at_, .sl .no (avs t.kids)]
  rw [isT_each] at k21
  rw [show (Enc.enc t : AV) = t.av from rfl]
  unfold isR
  rw [cells_ t] at k12 k21 ⊢
  generalize sizeF t = k at *
  generalize eachF t = e at *
  unfold bodyL
  simp only [codeAt, sub, Tryz.f24]
  cases hb : ltI 2000 k with
  | true => simp [EVT, endL, evSeq, evOne, evAct, evOp, opKind, evPure, evRead, evNew, evWrite, evSlice, natOf, optVal, readAt, AV.cells, wantedA, putTm, val, allVals, evBin, evInt, evStr, evAppend, evMin, nilCmp, denseFrom, sizesAre, onesIn, evPlan, recheck, H.new, H.put, fillF, fillAt, allOne, AV.one, setArgs, evRes, resOf, ofVal, ofVal0, isShift, ikBeq, TYC, hty, hpl, k12, hb, AV.wk, Enc.enc]
  | false => simp [EVT, endL, evSeq, evOne, evAct, evOp, opKind, evPure, evRead, evNew, evWrite, evSlice, natOf, optVal, readAt, AV.cells, wantedA, putTm, val, allVals, evBin, evInt, evStr, evAppend, evMin, nilCmp, denseFrom, sizesAre, onesIn, evPlan, recheck, H.new, H.put, fillF, fillAt, allOne, AV.one, setArgs, evRes, resOf, ofVal, ofVal0, isShift, ikBeq, TYC, hty, hpl, k12, hb, k22, k21, hg, AV.wk, Enc.enc]
end Go.Proofs.YtncccgglillmoaaGreatDoor.Tr
