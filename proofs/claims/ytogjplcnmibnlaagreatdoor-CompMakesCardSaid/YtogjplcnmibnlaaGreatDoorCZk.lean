/- The tree's is, walked; Is. -/
import Derived.Test.YtogjplcnmibnlaaGreatDoorCTU
import Derived.Test.YtogjplcnmibnlaaGreatDoorCTH
import Derived.Test.YtogjplcnmibnlaaGreatDoorCTP
import Derived.Test.YtogjplcnmibnlaaGreatDoorCTE
import Derived.Test.YtogjplcnmibnlaaGreatDoorCTQ
set_option autoImplicit false
set_option maxRecDepth 100000
set_option linter.unusedSimpArgs false
set_option linter.unusedVariables false
set_option linter.unusedSectionVars false
set_option maxHeartbeats 4000000
namespace Go.Proofs.YtogjplcnmibnlaaGreatDoor.Tr
open Go.Proofs.YtogjplcnmibnlaaGreatDoor.Env Go.Ev Go.Ev.Nd Go.Proofs.YtogjplcnmibnlaaGreatDoor.Lx

def GrowT (h : H) (t : T Ev.Obj) : Prop := ∀ j, j < h.nx → t.get j = h.t.get j
theorem GrowT.set {h : H} {t : T Ev.Obj} {k : Nat} {o : Ev.Obj} (hk : h.nx ≤ k) (g : GrowT h t) : GrowT h (t.set k o) := fun j hj => by
  simp only [T.get_set_ite]
  rw [if_neg (by omega)]
  exact g j hj
theorem Grow.of {h : H} {t : T Ev.Obj} {n : Nat} (hn : h.nx ≤ n) (g : GrowT h t) : Grow h ⟨t, n⟩ := ⟨hn, g⟩
theorem sh_iff {b m : Nat} {h : H} : Sh b m h ↔ h.t.get b = some (.cells [.map (some m)]) ∧ h.t.get m = some (.map (esS shL)) ∧ b < h.nx ∧ m < h.nx := ⟨fun s => ⟨s.gb, s.gm, s.lb, s.lm⟩, fun s => ⟨s.1, s.2.1, s.2.2.1, s.2.2.2⟩⟩
theorem body21 : Tryz.f36.body = some (codeAt Tryz.f36 []) := rfl
theorem is_run {m : Nat} : ∀ (d : Nat) (t : Nd) (h : H), dep t ≤ d → fit t → h.t.get m = some (.map (esS shL)) → m < h.nx → ∃ h', evL e34 36 [t.av, .map (some m)] h = some (.bool (isT t), h') ∧ Grow h h'
  | 0, t, h, hd, _, _, _ => by have := dep_pos t; omega
  | d + 1, t, h, hd, hf, gm, lm => by
    have hty : e34.ty = env.ty := rfl
    have hpl : e34.plan = env.plan := rfl
    have k34 : ∀ (s : Sha) h, evL e34 64 [t.av, s.av] h = some (.bool (namT t.op t.name t.arg s.a s.b), h) := fun s h =>
      prim2_call (a := t) (b := s) (F := fun (t : Nd) (s : Sha) => namT t.op t.name t.arg s.a s.b) (q := fun (t : Nd) (_ : Sha) => fit t) (by kernel_rfl) (Enc.bare 0 t) (Enc.bare 0 s) hf h
    obtain ⟨o, p, q, n, a, ks⟩ := t
    simp only [dep] at hd
    simp only [fit] at hf
    obtain ⟨F, hF⟩ : ∃ F : H → H, ∀ g, Sh (h.nx + 1) m g → evL e34 65 [.sl .no (avs ks), .fn 66 [] [.ptr (some (h.nx + 1, 0))]] g = some (.bool (!isTL ks), F g) ∧ Grow g (F g) := by
      have := fun g (s : Sh (h.nx + 1) m g) => contains_run (b := h.nx + 1) (m := m) hf.2.2.2.2.2.1 hf.2.2.2.2.2.2 (d := d) (by omega) (fun t h a b c e => is_run (m := m) d t h a b c e) g s
      classical
      exact ⟨fun g => if s : Sh (h.nx + 1) m g then (this g s).choose else g, fun g s => by simp only [dif_pos s]; exact (this g s).choose_spec⟩
    have k23 := fun g s => (hF g s).1
    have hgr := fun g s => (hF g s).2
    have hmg := mapGet_shape o shL
    have hil := avs_len ks
    have n0 : ¬ m = h.nx := by omega
    have n1 : ¬ m = h.nx + 1 := by omega
    have n2 : ¬ m = h.nx + 1 + 1 := by omega
    have e02 : ¬ h.nx = h.nx + 1 + 1 := by omega
    have e12 : ¬ h.nx + 1 = h.nx + 1 + 1 := by omega
    have e01 : ¬ h.nx = h.nx + 1 := by omega
    have l3 : m < h.nx + 1 + 1 + 1 := by omega
    have m3 : m < h.nx + 3 := by omega
    have n2' : ¬ m = h.nx + 2 := by omega
    simp only [isT]
    simp only [Nd.op, Nd.name, Nd.arg, Nd.av] at k34
    rw [evL_fn e34 (by kernel_rfl) (by kernel_rfl) body21 _ _ rfl]
    simp only [codeAt, sub, Tryz.f36, Nd.av]
    cases hlk : lookS o shL with
    | none =>
      rw [hlk] at hmg
      simp only [Option.map_none] at hmg
      simp [EVT, endL, evSeq, evOne, evAct, evOp, opKind, evPure, evRead, evNew, evWrite, evSlice, natOf, optVal, readAt, AV.cells, wantedA, putTm, val, allVals, evBin, evInt, evStr, evAppend, evMin, nilCmp, denseFrom, sizesAre, onesIn, evPlan, recheck, H.new, H.put, fillF, fillAt, allOne, AV.one, setArgs, evRes, resOf, ofVal, ofVal0, isShift, ikBeq, TYC, hty, hpl, keyOk, gm, n0, n1, n2, e02, e12, e01, hmg]
      exact .of (by omega) (.set (by omega) (.set (by omega) (.set (by omega) (.set (by omega) fun _ _ => rfl))))
    | some s =>
      obtain ⟨sa, sb, sl, sk⟩ := s
      rw [hlk] at hmg
      simp only [Option.map_some, Sha.av] at hmg
      have k34' := k34 ⟨sa, sb, sl, sk⟩
      simp only [Sha.av] at k34'
      simp only
      cases h1 : namT o p q sa sb with
      | false =>
        simp [EVT, endL, evSeq, evOne, evAct, evOp, opKind, evPure, evRead, evNew, evWrite, evSlice, natOf, optVal, readAt, AV.cells, wantedA, putTm, val, allVals, evBin, evInt, evStr, evAppend, evMin, nilCmp, denseFrom, sizesAre, onesIn, evPlan, recheck, H.new, H.put, fillF, fillAt, allOne, AV.one, setArgs, evRes, resOf, ofVal, ofVal0, isShift, ikBeq, TYC, hty, hpl, keyOk, gm, n0, n1, n2, e02, e12, e01, hmg, k34', h1]
        exact .of (by omega) (.set (by omega) (.set (by omega) (.set (by omega) (.set (by omega) fun _ _ => rfl))))
      | true =>
        cases h2 : ltI n 0 with
        | true =>
          simp [EVT, endL, evSeq, evOne, evAct, evOp, opKind, evPure, evRead, evNew, evWrite, evSlice, natOf, optVal, readAt, AV.cells, wantedA, putTm, val, allVals, evBin, evInt, evStr, evAppend, evMin, nilCmp, denseFrom, sizesAre, onesIn, evPlan, recheck, H.new, H.put, fillF, fillAt, allOne, AV.one, setArgs, evRes, resOf, ofVal, ofVal0, isShift, ikBeq, TYC, hty, hpl, keyOk, gm, n0, n1, n2, e02, e12, e01, hmg, k34', h1, h2]
          exact .of (by omega) (.set (by omega) (.set (by omega) (.set (by omega) (.set (by omega) fun _ _ => rfl))))
        | false =>
          cases h3 : ltI n (maxI sl) with
          | false =>
            have h3' := h3
            unfold maxI at h3'
            simp [EVT, endL, evSeq, evOne, evAct, evOp, opKind, evPure, evRead, evNew, evWrite, evSlice, natOf, optVal, readAt, AV.cells, wantedA, putTm, val, allVals, evBin, evInt, evStr, evAppend, evMin, nilCmp, denseFrom, sizesAre, onesIn, evPlan, recheck, H.new, H.put, fillF, fillAt, allOne, AV.one, setArgs, evRes, resOf, ofVal, ofVal0, isShift, ikBeq, TYC, hty, hpl, keyOk, gm, n0, n1, n2, e02, e12, e01, hmg, k34', h1, h2, h3']
            exact .of (by omega) (.set (by omega) (.set (by omega) (.set (by omega) (.set (by omega) fun _ _ => rfl))))
          | true =>
            have h3' := h3
            unfold maxI at h3'
            cases h4 : intBeq ↑ks.length sk with
            | false =>
              simp [EVT, endL, evSeq, evOne, evAct, evOp, opKind, evPure, evRead, evNew, evWrite, evSlice, natOf, optVal, readAt, AV.cells, wantedA, putTm, val, allVals, evBin, evInt, evStr, evAppend, evMin, nilCmp, denseFrom, sizesAre, onesIn, evPlan, recheck, H.new, H.put, fillF, fillAt, allOne, AV.one, setArgs, evRes, resOf, ofVal, ofVal0, isShift, ikBeq, TYC, hty, hpl, keyOk, gm, n0, n1, n2, e02, e12, e01, hmg, k34', h1, h2, h3', hil, h4]
              exact .of (by omega) (.set (by omega) (.set (by omega) (.set (by omega) (.set (by omega) fun _ _ => rfl))))
            | true =>
              simp [EVT, endL, evSeq, evOne, evAct, evOp, opKind, evPure, evRead, evNew, evWrite, evSlice, natOf, optVal, readAt, AV.cells, wantedA, putTm, val, allVals, evBin, evInt, evStr, evAppend, evMin, nilCmp, denseFrom, sizesAre, onesIn, evPlan, recheck, H.new, H.put, fillF, fillAt, allOne, AV.one, setArgs, evRes, resOf, ofVal, ofVal0, isShift, ikBeq, TYC, hty, hpl, keyOk, gm, n0, n1, n2, e02, e12, e01, n2', hmg, k34', h1, h2, h3', hil, h4, k23, sh_iff, l3, m3]
              refine Grow.trans ?_ (hgr _ ?_)
              · exact .of (by omega) (.set (by omega) (.set (by omega) (.set (by omega) (.set (by omega) fun _ _ => rfl))))
              · rw [sh_iff]; simp [T.get_set_ite, gm, n0, n1, n2, e02, e12, e01, n2']; omega
end Go.Proofs.YtogjplcnmibnlaaGreatDoor.Tr
/- The tree's is and the reference's each are one; Is. -/
set_option maxHeartbeats 4000000
namespace Go.Proofs.YtogjplcnmibnlaaGreatDoor.Tr
open Go.Proofs.YtogjplcnmibnlaaGreatDoor.Env Go.Ev Go.Ev.Nd Go.Proofs.YtogjplcnmibnlaaGreatDoor.Lx

theorem nn_zero (n : Int) : intBeq n 0 = (!ltI n 0 && ltI n 1) := by
  rw [Bool.eq_iff_iff, intBeq_iff]
  simp only [Bool.and_eq_true, Bool.not_eq_true', ltI_eq, decide_eq_true_eq, decide_eq_false_iff_not]
  omega
theorem nn_bool (n : Int) : (intBeq n 0 || intBeq n 1) = (!ltI n 0 && ltI n 2) := by
  rw [Bool.eq_iff_iff, Bool.or_eq_true, intBeq_iff, intBeq_iff]
  simp only [Bool.and_eq_true, Bool.not_eq_true', ltI_eq, decide_eq_true_eq, decide_eq_false_iff_not]
  omega
theorem nn_int (n : Int) : (!ltI n 0 && !ltI 999999999999999999 n) = (!ltI n 0 && ltI n 1000000000000000000) := by
  rw [Bool.eq_iff_iff]
  simp only [Bool.and_eq_true, Bool.not_eq_true', ltI_eq, decide_eq_true_eq, decide_eq_false_iff_not]
  omega
structure SOk (o : List Nat) (s : Sha) : Prop where
  k : kidsF o = s.k
  p : ∀ p q, namT o p q s.a s.b = (namA o p && namB o q)
  n : ∀ n, namN o n = (!ltI n 0 && ltI n (maxI s.l))
theorem sok_all : ∀ e ∈ shL, SOk e.1 e.2 := by
  have A : ∀ (x y : Bool), (bif !x then false else y) = (x && y) := by intro x y; cases x <;> rfl
  have B : ∀ (x y : Bool), (x && y) = (y && x) := by intro x y; cases x <;> cases y <;> rfl
  simp only [shL, List.mem_cons, List.not_mem_nil, or_false, forall_eq_or_imp, forall_eq]
  refine ⟨?_, ?_, ?_, ?_, ?_, ?_, ?_, ?_, ?_, ?_, ?_, ?_, ?_, ?_, ?_, ?_, ?_, ?_, ?_, ?_, ?_, ?_, ?_, ?_, ?_, ?_, ?_, ?_, ?_, ?_, ?_, ?_, ?_, ?_⟩
  case refine_1 => exact ⟨rfl, fun p q => A _ _, fun n => nn_int n⟩
  case refine_2 => exact ⟨rfl, fun p q => A _ _, fun n => nn_bool n⟩
  case refine_5 => exact ⟨rfl, fun p q => B _ _, fun n => nn_zero n⟩
  all_goals exact ⟨rfl, fun p q => A _ _, fun n => nn_zero n⟩
theorem lookS_mem {o : List Nat} : ∀ {l : List (List Nat × Sha)} {s : Sha}, lookS o l = some s → (o, s) ∈ l
  | (k, u) :: l, s, h => by
    simp only [lookS] at h
    cases hb : natsBeq o k with
    | true => rw [hb] at h; simp only [cond_true, Option.some.injEq] at h; rw [Go.Ev.natsBeq_iff.1 hb, h]; exact List.mem_cons_self ..
    | false => rw [hb] at h; exact List.mem_cons_of_mem _ (lookS_mem h)
theorem lookS_none {o : List Nat} : ∀ {l : List (List Nat × Sha)}, lookS o l = none → ∀ x ∈ l.map Prod.fst, natsBeq o x = false
  | [], _, x, hx => by simp at hx
  | (k, u) :: l, h, x, hx => by
    simp only [lookS] at h
    cases hb : natsBeq o k with
    | true => rw [hb] at h; simp at h
    | false =>
      rw [hb] at h
      rcases List.mem_cons.1 hx with rfl | hx
      · exact hb
      · exact lookS_none h x hx
theorem inO_none {o : List Nat} (h : lookS o shL = none) {l : List (List Nat)} (hl : ∀ x ∈ l, x ∈ shL.map Prod.fst) : inO o l = false := by
  unfold inO
  rw [List.any_eq_false]
  intro x hx
  rw [lookS_none h x (hl x hx)]
  simp
theorem kids_none {o : List Nat} (h : lookS o shL = none) : kidsF o = -1 := by
  unfold kidsF
  rw [inO_none h (l := ops0) (by decide), inO_none h (l := ops1) (by decide), inO_none h (l := ops2) (by decide), inO_none h (l := ops3) (by decide)]
  rfl
theorem intBeq_comm (a b : Int) : intBeq a b = intBeq b a := by rw [Bool.eq_iff_iff, intBeq_iff, intBeq_iff]; exact eq_comm
mutual
theorem isT_each : ∀ t : Nd, isT t = eachF t
  | .mk o p q n a ks => by
    simp only [isT, eachF]
    cases h : lookS o shL with
    | none =>
      rw [kids_none h]
      have : intBeq (-1) ↑ks.length = false := by cases hb : intBeq (-1) (↑ks.length : Int) with | false => rfl | true => rw [intBeq_iff] at hb; omega
      rw [this, Bool.false_and]
    | some s =>
      have k := sok_all (o, s) (lookS_mem h)
      simp only at k
      simp only
      unfold namesR
      simp only [Nd.op, Nd.name, Nd.arg, Nd.n]
      rw [k.k, k.p, k.n, isTL_each ks, intBeq_comm]
      cases namA o p <;> cases namB o q <;> cases ltI n 0 <;> cases ltI n (maxI s.l) <;> cases intBeq s.k ↑ks.length <;> rfl
theorem isTL_each : ∀ l : List Nd, isTL l = eachL l
  | [] => rfl
  | t :: l => by rw [isTL, eachL, isT_each t, isTL_each l]
end
theorem shapes_e34 (cs : List AV) : evL e34 37 [] ⟨T.e.set 0 (.cells cs), 1⟩ = some (.map (some 1), hS cs) := evL_of e34 (k := 200) (by kernel_rfl)
noncomputable abbrev pIsT := primVal (ofRel (Rel1 fit isR))
theorem p9_ok : PrimOk Tryz.prog 19 pIsT := prim1_ok e34_ok (fn := Tryz.f19) (by kernel_rfl) rfl (by kernel_rfl) fun t hf => by
  have k12 : ∀ h, evL e34 35 [t.av] h = some (.int .i64 (sizeF t), h) := fun h => prim1_call (a := t) (F := sizeF) (q := fit) (by kernel_rfl) (Enc.bare 0 t) hf h
  have hty : e34.ty = env.ty := rfl
  have hpl : e34.plan = env.plan := rfl
  have k22 := fun cs => shapes_e34 cs
  obtain ⟨h', k21, _⟩ := is_run (m := 1) (dep t) t (hS [.str t.op, .str t.name, .str t.arg, .int .i64 t.n, .int .i64 t.at_, .sl .no (avs t.kids)]) (Nat.le_refl _) hf (hS_1 _) (by rw [hS_n]; omega)
  have hg := hS_0 [.str t.op, .str t.name, .str t.arg, .int .i64 t.n, .int .i64 t.at_, .sl .no (avs t.kids)]
  rw [isT_each] at k21
  rw [show (Enc.enc t : AV) = t.av from rfl]
  unfold isR
  rw [cells_ t] at k12 k21 ⊢
  generalize sizeF t = k at *
  generalize eachF t = e at *
  unfold bodyL
  simp only [codeAt, sub, Tryz.f19]
  cases hb : ltI 2000 k with
  | true => simp [EVT, endL, evSeq, evOne, evAct, evOp, opKind, evPure, evRead, evNew, evWrite, evSlice, natOf, optVal, readAt, AV.cells, wantedA, putTm, val, allVals, evBin, evInt, evStr, evAppend, evMin, nilCmp, denseFrom, sizesAre, onesIn, evPlan, recheck, H.new, H.put, fillF, fillAt, allOne, AV.one, setArgs, evRes, resOf, ofVal, ofVal0, isShift, ikBeq, TYC, hty, hpl, k12, hb, AV.wk, Enc.enc]
  | false => simp [EVT, endL, evSeq, evOne, evAct, evOp, opKind, evPure, evRead, evNew, evWrite, evSlice, natOf, optVal, readAt, AV.cells, wantedA, putTm, val, allVals, evBin, evInt, evStr, evAppend, evMin, nilCmp, denseFrom, sizesAre, onesIn, evPlan, recheck, H.new, H.put, fillF, fillAt, allOne, AV.one, setArgs, evRes, resOf, ofVal, ofVal0, isShift, ikBeq, TYC, hty, hpl, k12, hb, k22, k21, hg, AV.wk, Enc.enc]
end Go.Proofs.YtogjplcnmibnlaaGreatDoor.Tr
/- What is a program that was made; strange names, long codes: the library's loops. -/
set_option maxHeartbeats 4000000
namespace Go.Proofs.YtogjplcnmibnlaaGreatDoor.Env
open Go.Ev Go.Ev.Nd

/-- A program in the heap: its depth, its codes, its strings. -/
def PR (h : H) (v : AV) (d : Int) (C : List (List Ins)) (S : List Str) : Prop :=
  ∃ fv w F, v = .agg [.int .i64 d, fv, .sl w (strs S)] ∧ FunsR h fv F ∧ F.length = C.length ∧ ∀ (i : Nat) x c, F[i]? = some x → C[i]? = some c → CodeR h x c
theorem FunsR.mono {h h' : H} {v : AV} {F : List AV} (c : FunsR h v F) (hn : h.nx ≤ h'.nx) (hg : ∀ j, ridOf v = some j → j < h.nx → h'.t.get j = h.t.get j) : FunsR h' v F := by
  rcases c with e | ⟨id, e, hi, hlt⟩
  · exact .inl e
  · exact .inr ⟨id, e, by rw [hg id (by rw [e]; rfl) hlt]; exact hi, Nat.lt_of_lt_of_le hlt hn⟩
theorem PR.grow {h h' : H} {v : AV} {d : Int} {C : List (List Ins)} {S : List Str} (p : PR h v d C S) (hn : h.nx ≤ h'.nx) (hg : ∀ j, j < h.nx → h'.t.get j = h.t.get j) : PR h' v d C S := by
  obtain ⟨fv, w, F, e, f, l, c⟩ := p
  exact ⟨fv, w, F, e, f.mono hn fun j _ hj => hg j hj, l, fun i x k hx hk => (c i x k hx hk).mono hn fun j _ hj => hg j hj⟩
theorem FunsR.len {h : H} {v : AV} {F : List AV} (c : FunsR h v F) (hl : F.length ≤ 1000000) : (v = .sl .full [] ∧ F = []) ∨ ∃ id, v = .rs id F.length true ∧ h.t.get id = some (.row F.length 54 1 F) ∧ id < h.nx := c
/-- The machine, where programs are made: what is primitive, what is not. -/
structure EOf (E : Env) : Prop where
  ty : E.ty = env.ty
  pl : E.plan = env.plan
  fn : E.fns = env.fns
  no : ∀ k ∈ [8, 9, 10, 17, 20, 22, 23, 24, 26, 34, 38, 42, 43, 44, 45, 46, 69, 70, 71, 72, 73, 74, 75, 76, 77, 78, 79, 80, 81, 82, 83, 84, 113, 114, 115, 116, 117], E.prim k = none
  gr : E.prim 127 = some (primGrow 9 1 16)
  has : E.prim 18 = some Tr.pHasS
  hasR : E.prim 25 = some Tr.pHasS
  is : E.prim 19 = some Tr.pIsT
  isR : E.prim 14 = some Tr.pIsR
  free : E.prim 21 = some Tr.pTFree
  freeR : E.prim 15 = some Tr.pRFree
  size : E.prim 7 = some Tr.pSize
theorem EOf.a {E : Env} (e : EOf E) : EOk E := ⟨e.ty, e.pl, e.fn, fun k hk => e.no k (by simp only [List.mem_cons, List.not_mem_nil, or_false] at hk ⊢; omega), e.gr⟩
theorem EOf.b {E : Env} (e : EOf E) : EOk14 E := ⟨e.ty, e.pl, e.fn, fun k hk => e.no k (by simp only [List.mem_cons, List.not_mem_nil, or_false] at hk ⊢; omega)⟩
theorem body17 : Tryz.f17.body = some (codeAt Tryz.f17 []) := rfl
theorem strange_run {E : Env} (e : EOf E) {b : Nat} {oe : Go.Ev.Own} {en : List Str} (hen : en.length ≤ 1000000) {h : H} (hb : h.t.get b = some (.cells [.sl oe (strs en)])) (v : List Nat) :
    evL E 17 [.str v, .ptr (some (b, 0))] h = some (.bool (!hasS en v), h) := by
  have hty := e.ty
  have hpl := e.pl
  have k := fun h => Tr.cHas e.has oe en v (by omega) h
  rw [evL_fn E (e.no 17 (by simp)) (by rw [e.fn]; kernel_rfl) body17 _ _ rfl]
  simp only [codeAt, sub, Tryz.f17]
  simp [EVT, endL, evSeq, evOne, evAct, evOp, opKind, evPure, evRead, evNew, evWrite, evSlice, natOf, optVal, readAt, AV.cells, wantedA, putTm, val, allVals, evBin, evInt, evStr, evAppend, evMin, nilCmp, denseFrom, sizesAre, onesIn, evPlan, recheck, H.new, H.put, fillF, fillAt, allOne, AV.one, setArgs, evRes, resOf, ofVal, ofVal0, isShift, ikBeq, TYC, hty, hpl, hb, k]
/-- Is one of the names strange? -/
def strangeL (L en : List Str) : Bool := L.any fun t => !hasS en t.s
noncomputable def b38_0 : Code := loopOf Tryz.f38 0
theorem body38 : Tryz.f38.body = some (.seq (codeAt Tryz.f38 [0]) (.seq (.seq (codeAt Tryz.f38 [1, 0, 0]) (.block 0 (.loop b38_0))) (codeAt Tryz.f38 [1, 1]))) := rfl
theorem loop38 {E : Env} (e : EOf E) {b : Nat} {o oe : Go.Ev.Own} {L en : List Str} (hen : en.length ≤ 1000000) (hl : L.length ≤ 1000000) {h : H} (hb : h.t.get b = some (.cells [.sl oe (strs en)])) : ∀ (l : List Str) (i : Nat) {tm : Tm} {x : Option (Ex × Tm × H)}, cdL E 38 19 (.loop b38_0) tm h = x → l = L.drop i → i ≤ L.length →
    tm.get 0 = some (.sl o (strs L)) → tm.get 1 = some (.fn 17 [] [.ptr (some (b, 0))]) → tm.get 7 = some (.int .i64 ↑L.length) → tm.get 8 = some (.int .i64 ↑i) →
    ∃ tm', x = some (bif strangeL l en then .ret else .exit 0, tm', h) ∧ (strangeL l en = true → ∃ j : Nat, tm'.get 4 = some (.int .i64 ↑j))
  | [], i, tm, x, hx, hd, hi, h0, h1, h7, h8 => by
    have hlen := dnil hd hi
    have hty := e.ty
    have hpl := e.pl
    obtain ⟨R, hR, hx⟩ := loop_step hx
    simp [b38_0, loopOf, Tryz.f38, loops, EVT, endL, evSeq, evOne, evAct, evOp, opKind, evPure, evRead, evNew, evWrite, evSlice, natOf, optVal, readAt, AV.cells, wantedA, putTm, val, allVals, evBin, evInt, evStr, evAppend, evMin, nilCmp, denseFrom, sizesAre, onesIn, evPlan, recheck, H.new, H.put, fillF, fillAt, allOne, AV.one, setArgs, evRes, resOf, ofVal, ofVal0, isShift, ikBeq, TYC, lp, hty, hpl, h0, h1, h7, h8, hlen, ltI_f] at hx
    exact ⟨_, by rw [← hx]; rfl, by simp [strangeL]⟩
  | c :: l, i, tm, x, hx, hd, hi, h0, h1, h7, h8 => by
    obtain ⟨hlt, hc, hd'⟩ := dcons hd
    have hty := e.ty
    have hpl := e.pl
    have hat := strs_get hc
    have k := strange_run e hen hb c.s
    obtain ⟨R, hR, hx⟩ := loop_step hx
    have hlt' := ltI_t hlt
    have hw := wr_succ (i := i) (by omega)
    cases hs : hasS en c.s with
    | false =>
      rw [hs] at k
      simp [b38_0, loopOf, Tryz.f38, loops, EVT, endL, evSeq, evOne, evAct, evOp, opKind, evPure, evRead, evNew, evWrite, evSlice, natOf, optVal, readAt, AV.cells, wantedA, putTm, val, allVals, evBin, evInt, evStr, evAppend, evMin, nilCmp, denseFrom, sizesAre, onesIn, evPlan, recheck, H.new, H.put, fillF, fillAt, allOne, AV.one, setArgs, evRes, resOf, ofVal, ofVal0, isShift, ikBeq, TYC, lp, hty, hpl, h0, h1, h7, h8, hlt', hat, k] at hx
      exact ⟨_, by rw [← hx]; simp [strangeL, hs]; rfl, fun _ => ⟨i, by simp [T.get_set_ite]⟩⟩
    | true =>
      rw [hs] at k
      simp [b38_0, loopOf, Tryz.f38, loops, EVT, endL, evSeq, evOne, evAct, evOp, opKind, evPure, evRead, evNew, evWrite, evSlice, natOf, optVal, readAt, AV.cells, wantedA, putTm, val, allVals, evBin, evInt, evStr, evAppend, evMin, nilCmp, denseFrom, sizesAre, onesIn, evPlan, recheck, H.new, H.put, fillF, fillAt, allOne, AV.one, setArgs, evRes, resOf, ofVal, ofVal0, isShift, ikBeq, TYC, lp, hty, hpl, h0, h1, h7, h8, hlt', hat, k, hw] at hx
      rw [hR] at hx
      have e1 : strangeL (c :: l) en = strangeL l en := by simp [strangeL, hs]
      rw [e1]
      exact loop38 e (o := o) hen hl hb l (i + 1) hx hd' hlt (by simp [T.get_set_ite, h0]) (by simp [T.get_set_ite, h1]) (by simp [T.get_set_ite, h7]) (by simp [T.get_set_ite])
theorem body20 : Tryz.f20.body = some (codeAt Tryz.f20 []) := rfl
theorem any20_run {E : Env} (e : EOf E) {b : Nat} {o oe : Go.Ev.Own} {L en : List Str} (hen : en.length ≤ 1000000) (hl : L.length ≤ 1000000) {h : H} (hb : h.t.get b = some (.cells [.sl oe (strs en)])) :
    evL E 20 [.sl o (strs L), .fn 17 [] [.ptr (some (b, 0))]] h = some (.bool (strangeL L en), h) := by
  have hty := e.ty
  have hpl := e.pl
  have hil := strs_len L
  have K : ∃ n : Int, evL E 38 [.sl o (strs L), .fn 17 [] [.ptr (some (b, 0))]] h = some (.int .i64 n, h) ∧ ltI n 0 = !strangeL L en := by
    rw [evL_fn E (e.no 38 (by simp)) (by rw [e.fn]; kernel_rfl) body38 _ _ rfl]
    simp only [codeAt, sub, Tryz.f38]
    simp [EVT, endL, evSeq, evOne, evAct, evOp, opKind, evPure, evRead, evNew, evWrite, evSlice, natOf, optVal, readAt, AV.cells, wantedA, putTm, val, allVals, evBin, evInt, evStr, evAppend, evMin, nilCmp, denseFrom, sizesAre, onesIn, evPlan, recheck, H.new, H.put, fillF, fillAt, allOne, AV.one, setArgs, evRes, resOf, ofVal, ofVal0, isShift, ikBeq, TYC, hty, hpl, hil]
    generalize hx : cdL E 38 19 (.loop b38_0) _ _ = x
    obtain ⟨tm', rfl, g⟩ := loop38 e (o := o) hen hl hb L 0 hx rfl (Nat.zero_le _) (by simp [T.get_set_ite]) (by simp [T.get_set_ite]) (by simp [T.get_set_ite]) (by simp [T.get_set_ite])
    cases hs : strangeL L en with
    | true =>
      obtain ⟨j, hj⟩ := g hs
      refine ⟨↑j, by simp [EVT, endL, evSeq, evOne, evAct, evOp, opKind, evPure, evRead, evNew, evWrite, evSlice, natOf, optVal, readAt, AV.cells, wantedA, putTm, val, allVals, evBin, evInt, evStr, evAppend, evMin, nilCmp, denseFrom, sizesAre, onesIn, evPlan, recheck, H.new, H.put, fillF, fillAt, allOne, AV.one, setArgs, evRes, resOf, ofVal, ofVal0, isShift, ikBeq, TYC, hty, hpl, hj], ?_⟩
      rw [ltI_eq]; simp
    | false => exact ⟨-1, by simp [EVT, endL, evSeq, evOne, evAct, evOp, opKind, evPure, evRead, evNew, evWrite, evSlice, natOf, optVal, readAt, AV.cells, wantedA, putTm, val, allVals, evBin, evInt, evStr, evAppend, evMin, nilCmp, denseFrom, sizesAre, onesIn, evPlan, recheck, H.new, H.put, fillF, fillAt, allOne, AV.one, setArgs, evRes, resOf, ofVal, ofVal0, isShift, ikBeq, TYC, hty, hpl], rfl⟩
  obtain ⟨n, k, hn⟩ := K
  rw [evL_fn E (e.no 20 (by simp)) (by rw [e.fn]; kernel_rfl) body20 _ _ rfl]
  simp only [codeAt, sub, Tryz.f20]
  simp [EVT, endL, evSeq, evOne, evAct, evOp, opKind, evPure, evRead, evNew, evWrite, evSlice, natOf, optVal, readAt, AV.cells, wantedA, putTm, val, allVals, evBin, evInt, evStr, evAppend, evMin, nilCmp, denseFrom, sizesAre, onesIn, evPlan, recheck, H.new, H.put, fillF, fillAt, allOne, AV.one, setArgs, evRes, resOf, ofVal, ofVal0, isShift, ikBeq, TYC, hty, hpl, k, hn]
/-! Long codes -/
def longL (C : List (List Ins)) : Bool := C.any fun c => ltI 4000 ↑c.length
theorem body23 : Tryz.f23.body = some (codeAt Tryz.f23 []) := rfl
theorem long_run {E : Env} (e : EOf E) {h : H} {v : AV} {c : List Ins} (hc : CodeR h v c) : evL E 23 [v] h = some (.bool (ltI 4000 ↑c.length), h) := by
  have hty := e.ty
  have hpl := e.pl
  rw [evL_fn E (e.no 23 (by simp)) (by rw [e.fn]; kernel_rfl) body23 _ _ rfl]
  simp only [codeAt, sub, Tryz.f23]
  rcases hc with ⟨rfl, rfl⟩ | ⟨id, rfl, hg, hi⟩
  · simp [EVT, endL, evSeq, evOne, evAct, evOp, opKind, evPure, evRead, evNew, evWrite, evSlice, natOf, optVal, readAt, AV.cells, wantedA, putTm, val, allVals, evBin, evInt, evStr, evAppend, evMin, nilCmp, denseFrom, sizesAre, onesIn, evPlan, recheck, H.new, H.put, fillF, fillAt, allOne, AV.one, setArgs, evRes, resOf, ofVal, ofVal0, isShift, ikBeq, TYC, hty, hpl]
  · simp [EVT, endL, evSeq, evOne, evAct, evOp, opKind, evPure, evRead, evNew, evWrite, evSlice, natOf, optVal, readAt, AV.cells, wantedA, putTm, val, allVals, evBin, evInt, evStr, evAppend, evMin, nilCmp, denseFrom, sizesAre, onesIn, evPlan, recheck, H.new, H.put, fillF, fillAt, allOne, AV.one, setArgs, evRes, resOf, ofVal, ofVal0, isShift, ikBeq, TYC, hty, hpl]
noncomputable def b44_0 : Code := loopOf Tryz.f44 0
theorem body44 : Tryz.f44.body = some (.seq (codeAt Tryz.f44 [0]) (.seq (.seq (codeAt Tryz.f44 [1, 0, 0]) (.block 0 (.loop b44_0))) (codeAt Tryz.f44 [1, 1]))) := rfl
theorem CodeR.cell {h : H} {v : AV} {c : List Ins} (hc : CodeR h v c) : v.cells = [v] := by rcases hc with ⟨rfl, _⟩ | ⟨id, rfl, _⟩ <;> rfl
theorem loop44 {E : Env} (e : EOf E) {id : Nat} {F : List AV} {C : List (List Ins)} (hl : F.length ≤ 1000000) {h : H} (hg : h.t.get id = some (.row F.length 54 1 F)) (hln : F.length = C.length) (hcs : ∀ (i : Nat) x c, F[i]? = some x → C[i]? = some c → CodeR h x c) : ∀ (l : List (List Ins)) (i : Nat) {tm : Tm} {x : Option (Ex × Tm × H)}, cdL E 44 19 (.loop b44_0) tm h = x → l = C.drop i → i ≤ C.length →
    tm.get 0 = some (.rs id F.length true) → tm.get 1 = some (.fn 23 [] []) → tm.get 7 = some (.int .i64 ↑C.length) → tm.get 8 = some (.int .i64 ↑i) →
    ∃ tm', x = some (bif longL l then .ret else .exit 0, tm', h) ∧ (longL l = true → ∃ j : Nat, tm'.get 4 = some (.int .i64 ↑j))
  | [], i, tm, x, hx, hd, hi, h0, h1, h7, h8 => by
    have hlen := dnil hd hi
    have hty := e.ty
    have hpl := e.pl
    obtain ⟨R, hR, hx⟩ := loop_step hx
    simp [b44_0, loopOf, Tryz.f44, loops, EVT, endL, evSeq, evOne, evAct, evOp, opKind, evPure, evRead, evNew, evWrite, evSlice, natOf, optVal, readAt, AV.cells, wantedA, putTm, val, allVals, evBin, evInt, evStr, evAppend, evMin, nilCmp, denseFrom, sizesAre, onesIn, evPlan, recheck, H.new, H.put, fillF, fillAt, allOne, AV.one, setArgs, evRes, resOf, ofVal, ofVal0, isShift, ikBeq, TYC, lp, hty, hpl, h0, h1, h7, h8, hlen, ltI_f] at hx
    exact ⟨_, by rw [← hx]; rfl, by simp [longL]⟩
  | c :: l, i, tm, x, hx, hd, hi, h0, h1, h7, h8 => by
    obtain ⟨hlt, hc, hd'⟩ := dcons hd
    have hty := e.ty
    have hpl := e.pl
    have hfl : i < F.length := by omega
    have hfi : F[i]? = some F[i] := List.getElem?_eq_getElem hfl
    have hcr := hcs i F[i] c hfi hc
    obtain ⟨v, hve⟩ : ∃ v, F[i] = v := ⟨_, rfl⟩
    rw [hve] at hfi hcr
    have k := long_run e hcr
    have hcell := hcr.cell
    have hone := hcr.one
    obtain ⟨R, hR, hx⟩ := loop_step hx
    have hlt' := ltI_t hlt
    have hw := wr_succ (i := i) (by omega)
    have hbl : Nat.blt i F.length = true := blt_nat.2 hfl
    have hle : i + 1 ≤ F.length := hfl
    cases hs : ltI 4000 ↑c.length with
    | true =>
      rw [hs] at k
      simp [b44_0, loopOf, Tryz.f44, loops, EVT, endL, evSeq, evOne, evAct, evOp, opKind, evPure, evRead, evNew, evWrite, evSlice, natOf, optVal, readAt, AV.cells, wantedA, putTm, val, allVals, evBin, evInt, evStr, evAppend, evMin, nilCmp, denseFrom, sizesAre, onesIn, evPlan, recheck, H.new, H.put, fillF, fillAt, allOne, AV.one, setArgs, evRes, resOf, ofVal, ofVal0, isShift, ikBeq, TYC, lp, hty, hpl, h0, h1, h7, h8, hlt', hg, hfi, hve, hfl, hbl, hle, k] at hx
      exact ⟨_, by rw [← hx]; simp [longL, hs]; rfl, fun _ => ⟨i, by simp [T.get_set_ite]⟩⟩
    | false =>
      rw [hs] at k
      simp [b44_0, loopOf, Tryz.f44, loops, EVT, endL, evSeq, evOne, evAct, evOp, opKind, evPure, evRead, evNew, evWrite, evSlice, natOf, optVal, readAt, AV.cells, wantedA, putTm, val, allVals, evBin, evInt, evStr, evAppend, evMin, nilCmp, denseFrom, sizesAre, onesIn, evPlan, recheck, H.new, H.put, fillF, fillAt, allOne, AV.one, setArgs, evRes, resOf, ofVal, ofVal0, isShift, ikBeq, TYC, lp, hty, hpl, h0, h1, h7, h8, hlt', hg, hfi, hve, hfl, hbl, hle, k, hw] at hx
      rw [hR] at hx
      have e1 : longL (c :: l) = longL l := by simp [longL, hs]
      rw [e1]
      exact loop44 e hl hg hln hcs l (i + 1) hx hd' hlt (by simp [T.get_set_ite, h0]) (by simp [T.get_set_ite, h1]) (by simp [T.get_set_ite, h7]) (by simp [T.get_set_ite])
theorem body24 : Tryz.f24.body = some (codeAt Tryz.f24 []) := rfl
theorem any24_run {E : Env} (e : EOf E) {fv : AV} {F : List AV} {C : List (List Ins)} (hl : F.length ≤ 1000000) {h : H} (hf : FunsR h fv F) (hln : F.length = C.length) (hcs : ∀ (i : Nat) x c, F[i]? = some x → C[i]? = some c → CodeR h x c) :
    evL E 24 [fv, .fn 23 [] []] h = some (.bool (longL C), h) := by
  have hty := e.ty
  have hpl := e.pl
  have K : ∃ n : Int, evL E 44 [fv, .fn 23 [] []] h = some (.int .i64 n, h) ∧ ltI n 0 = !longL C := by
    rcases hf with ⟨rfl, rfl⟩ | ⟨id, rfl, hg, hi⟩
    · have : C = [] := List.eq_nil_of_length_eq_zero hln.symm
      subst this
      refine ⟨-1, ?_, rfl⟩
      rw [evL_fn E (e.no 44 (by simp)) (by rw [e.fn]; kernel_rfl) body44 _ _ rfl]
      simp only [codeAt, sub, Tryz.f44]
      simp [EVT, endL, evSeq, evOne, evAct, evOp, opKind, evPure, evRead, evNew, evWrite, evSlice, natOf, optVal, readAt, AV.cells, wantedA, putTm, val, allVals, evBin, evInt, evStr, evAppend, evMin, nilCmp, denseFrom, sizesAre, onesIn, evPlan, recheck, H.new, H.put, fillF, fillAt, allOne, AV.one, setArgs, evRes, resOf, ofVal, ofVal0, isShift, ikBeq, TYC, hty, hpl]
      generalize hx : cdL E 44 19 (.loop b44_0) _ _ = x
      obtain ⟨R, hR, hx⟩ := loop_step hx
      have h00 : ltI 0 0 = false := rfl
      simp [b44_0, loopOf, Tryz.f44, loops, EVT, endL, evSeq, evOne, evAct, evOp, opKind, evPure, evRead, evNew, evWrite, evSlice, natOf, optVal, readAt, AV.cells, wantedA, putTm, val, allVals, evBin, evInt, evStr, evAppend, evMin, nilCmp, denseFrom, sizesAre, onesIn, evPlan, recheck, H.new, H.put, fillF, fillAt, allOne, AV.one, setArgs, evRes, resOf, ofVal, ofVal0, isShift, ikBeq, TYC, lp, hty, hpl, h00] at hx
      rw [← hx]
      simp [EVT, endL, evSeq, evOne, evAct, evOp, opKind, evPure, evRead, evNew, evWrite, evSlice, natOf, optVal, readAt, AV.cells, wantedA, putTm, val, allVals, evBin, evInt, evStr, evAppend, evMin, nilCmp, denseFrom, sizesAre, onesIn, evPlan, recheck, H.new, H.put, fillF, fillAt, allOne, AV.one, setArgs, evRes, resOf, ofVal, ofVal0, isShift, ikBeq, TYC, hty, hpl]
    · rw [evL_fn E (e.no 44 (by simp)) (by rw [e.fn]; kernel_rfl) body44 _ _ rfl]
      simp only [codeAt, sub, Tryz.f44]
      simp [EVT, endL, evSeq, evOne, evAct, evOp, opKind, evPure, evRead, evNew, evWrite, evSlice, natOf, optVal, readAt, AV.cells, wantedA, putTm, val, allVals, evBin, evInt, evStr, evAppend, evMin, nilCmp, denseFrom, sizesAre, onesIn, evPlan, recheck, H.new, H.put, fillF, fillAt, allOne, AV.one, setArgs, evRes, resOf, ofVal, ofVal0, isShift, ikBeq, TYC, hty, hpl]
      generalize hx : cdL E 44 19 (.loop b44_0) _ _ = x
      obtain ⟨tm', rfl, g⟩ := loop44 e hl hg hln hcs C 0 hx rfl (Nat.zero_le _) (by simp [T.get_set_ite]) (by simp [T.get_set_ite]) (by simp [T.get_set_ite, hln]) (by simp [T.get_set_ite])
      cases hs : longL C with
      | true =>
        obtain ⟨j, hj⟩ := g hs
        refine ⟨↑j, by simp [EVT, endL, evSeq, evOne, evAct, evOp, opKind, evPure, evRead, evNew, evWrite, evSlice, natOf, optVal, readAt, AV.cells, wantedA, putTm, val, allVals, evBin, evInt, evStr, evAppend, evMin, nilCmp, denseFrom, sizesAre, onesIn, evPlan, recheck, H.new, H.put, fillF, fillAt, allOne, AV.one, setArgs, evRes, resOf, ofVal, ofVal0, isShift, ikBeq, TYC, hty, hpl, hj], ?_⟩
        rw [ltI_eq]; simp
      | false => exact ⟨-1, by simp [EVT, endL, evSeq, evOne, evAct, evOp, opKind, evPure, evRead, evNew, evWrite, evSlice, natOf, optVal, readAt, AV.cells, wantedA, putTm, val, allVals, evBin, evInt, evStr, evAppend, evMin, nilCmp, denseFrom, sizesAre, onesIn, evPlan, recheck, H.new, H.put, fillF, fillAt, allOne, AV.one, setArgs, evRes, resOf, ofVal, ofVal0, isShift, ikBeq, TYC, hty, hpl], rfl⟩
  obtain ⟨n, k, hn⟩ := K
  rw [evL_fn E (e.no 24 (by simp)) (by rw [e.fn]; kernel_rfl) body24 _ _ rfl]
  simp only [codeAt, sub, Tryz.f24]
  simp [EVT, endL, evSeq, evOne, evAct, evOp, opKind, evPure, evRead, evNew, evWrite, evSlice, natOf, optVal, readAt, AV.cells, wantedA, putTm, val, allVals, evBin, evInt, evStr, evAppend, evMin, nilCmp, denseFrom, sizesAre, onesIn, evPlan, recheck, H.new, H.put, fillF, fillAt, allOne, AV.one, setArgs, evRes, resOf, ofVal, ofVal0, isShift, ikBeq, TYC, hty, hpl, k, hn]
end Go.Proofs.YtogjplcnmibnlaaGreatDoor.Env
