/- The reference's node: the last case; all depths. -/
import Derived.Test.YtogjplcnmibnlaaGreatDoorCZi
import Derived.Test.YtogjplcnmibnlaaGreatDoorEvV
import Derived.Test.YtogjplcnmibnlaaGreatDoorCFacts
set_option autoImplicit false
set_option maxRecDepth 100000
set_option linter.unusedSimpArgs false
set_option linter.unusedVariables false
set_option linter.unusedSectionVars false
set_option maxHeartbeats 8000000
namespace Go.Proofs.YtogjplcnmibnlaaGreatDoor.Env
open Go.Ev Go.Ev.Nd

theorem loop45 {E : Env} (e : EOk14 E) {d : Nat} (nr : NR14 E d) {m b q : Nat} {t : Nd} {oe : Go.Ev.Own} {en : List Str} {CS : List (List Ins)} (hq : q < CS.length) (ht : t.dep ≤ d + 1) (ha : arOk t = true) (hv : ∀ k ∈ t.kids, Vd d k en) (hl : t.kids.length ≤ 9223372036854775807) (b4' : en.length + 2 * t.dep ≤ 1000000) :
    ∀ (l : List Nd) (i : Nat) {tm : Tm} {h : H} {x : Option (Ex × Tm × H)} {fv : AV} {F : List AV} {w : Go.Ev.Own} {S : List Str} {c : List Ins} {N : List (List Ins)}, cdL E 45 143 (.loop b45_0) tm h = x → l = t.kids.drop i → i ≤ t.kids.length →
    tm.get 0 = some (.ptr (some (m, 0))) → tm.get 1 = some (.int .i64 ↑q) → tm.get 3 = some (.sl oe (strs en)) → tm.get 6 = some (.ptr (some (b, 0))) → tm.get 10 = some (.int .i64 ↑i) →
    Bx h b t (TR m fv F w) → MR h m fv F w S (Sta CS q c N) → S.length + sizes l ≤ 1000000 → CS.length + N.length + sizes l ≤ 1000000 → c.length + 8 * sizes l ≤ 1000000 →
    ∃ tm' h', x = some (.exit 1, tm', h') ∧ (∃ fv' F' w', MR h' m fv' F' w' (genK (gen d) en l S (CS.length + N.length) c.length).1 (Sta CS q (c ++ (genK (gen d) en l S (CS.length + N.length) c.length).2.2) (N ++ (genK (gen d) en l S (CS.length + N.length) c.length).2.1)) ∧ StR h (TR m fv F w) (TR m fv' F' w') h') ∧
      tm'.get 0 = some (.ptr (some (m, 0))) ∧ tm'.get 1 = some (.int .i64 ↑q) ∧ tm'.get 6 = some (.ptr (some (b, 0)))
  | [], i, tm, h, x, fv, F, w, S, c, N, hx, hd, hi, h0, h1, h3, h6, h10, B, M, s1, s2, s3 => by
    have hlen := dnil hd hi
    have hty := e.ty
    have hpl := e.pl
    have g := B.g
    simp only [ndC] at g
    have hal := avs_len t.kids
    obtain ⟨R, hR, hx⟩ := loop_step hx
    simp [b45_0, loopOf, Tryz.f45, loops, EVT, endL, evSeq, evOne, evAct, evOp, opKind, evPure, evRead, evNew, evWrite, evSlice, natOf, optVal, readAt, AV.cells, wantedA, putTm, val, allVals, evBin, evInt, evStr, evAppend, evMin, nilCmp, denseFrom, sizesAre, onesIn, evPlan, recheck, H.new, H.put, fillF, fillAt, allOne, AV.one, setArgs, evRes, resOf, ofVal, ofVal0, isShift, ikBeq, TYC, lp, hty, hpl, h6, h10, g, hlen, hal, ltI_f] at hx
    refine ⟨_, h, by rw [← hx], ⟨fv, F, w, ?_, .grow (Nat.le_refl _) fun _ _ => rfl⟩, by simp [T.get_set_ite, h0], by simp [T.get_set_ite, h1], by simp [T.get_set_ite, h6]⟩
    simp only [genK, List.append_nil]
    exact M
  | k :: l, i, tm, h, x, fv, F, w, S, c, N, hx, hdr, hi, h0, h1, h3, h6, h10, B, M, s1, s2, s3 => by
    obtain ⟨hlt, hct, hd'⟩ := dcons hdr
    have hty := e.ty
    have hpl := e.pl
    have hat := avs_get hct
    have hkm := List.mem_of_getElem? hct
    have hal := avs_len t.kids
    have hlt' := ltI_t hlt
    have hw := wr_succ (i := i) (by omega)
    have hdk := dep_mem hkm
    have hdt := dep_eq t
    simp only [sizes] at s1 s2 s3
    have n0 := gen_len d k en S (CS.length + N.length) c.length ((arOk_kids ha).2 k hkm)
    have g := B.g
    simp only [ndC] at g
    obtain ⟨h2, k2, fv2, F2, w2, M2, T2⟩ := nr k en oe (by omega) ((arOk_kids ha).2 k hkm) (hv k hkm) M hq (by omega) (by omega) (by omega) (by omega)
    have B2 := B.step T2
    obtain ⟨R, hR, hx⟩ := loop_step hx
    rw [cells_ k] at hat k2
    simp [b45_0, loopOf, Tryz.f45, loops, EVT, endL, evSeq, evOne, evAct, evOp, opKind, evPure, evRead, evNew, evWrite, evSlice, natOf, optVal, readAt, AV.cells, wantedA, putTm, val, allVals, evBin, evInt, evStr, evAppend, evMin, nilCmp, denseFrom, sizesAre, onesIn, evPlan, recheck, H.new, H.put, fillF, fillAt, allOne, AV.one, setArgs, evRes, resOf, ofVal, ofVal0, isShift, ikBeq, TYC, lp, hty, hpl, h0, h1, h3, h6, h10, g, hal, hlt', hw, hat, k2] at hx
    rw [hR] at hx
    have e1 : CS.length + (N ++ (gen d k en S (CS.length + N.length) c.length).2.1).length = CS.length + N.length + (gen d k en S (CS.length + N.length) c.length).2.1.length := by simp; omega
    obtain ⟨tm', h', ex, ⟨fv', F', w', M', T'⟩, t0, t1, t6⟩ := loop45 (oe := oe) e nr hq ht ha hv hl b4' l (i + 1) (fv := fv2) (F := F2) (w := w2) (c := c ++ (gen d k en S (CS.length + N.length) c.length).2.2) (N := N ++ (gen d k en S (CS.length + N.length) c.length).2.1) hx hd' hlt (by simp [T.get_set_ite, h0]) (by simp [T.get_set_ite, h1]) (by simp [T.get_set_ite, h3]) (by simp [T.get_set_ite, h6]) (by simp [T.get_set_ite]) B2 M2 (by have := n0.1; omega) (by rw [e1]; have := n0.2.1; omega) (by have := n0.2.2; simp; omega)
    rw [e1, List.length_append, List.append_assoc, List.append_assoc] at M'
    exact ⟨tm', h', ex, ⟨fv', F', w', M', T2.trans T'⟩, t0, t1, t6⟩
section
variable {E : Env} {h : H} {m : Nat} {fv : AV} {F : List AV} {w : Go.Ev.Own} {S : List Str} {CS : List (List Ins)} {q : Nat} {c : List Ins} {N : List (List Ins)} {t : Nd} {oe : Go.Ev.Own} {en : List Str} {d : Nat}
theorem node14_rest (e : EOk14 E) (nr : NR14 E d) (M : MR h m fv F w S (Sta CS q c N)) (hq : q < CS.length) (ht : t.dep ≤ d + 1) (ha : arOk t = true) (hv : Vd (d + 1) t en) (b1 : S.length + t.size ≤ 1000000) (b2 : CS.length + N.length + t.size ≤ 1000000) (b3 : c.length + 8 * t.size ≤ 1000000) (b4 : en.length + 2 * t.dep ≤ 1000000) (hg : leafG t.op t.name t.n en S = none)
    (c0 : natsBeq t.op oFun = false) (c1 : natsBeq t.op oLet = false) (c2 : natsBeq t.op oRec = false) (c3 : natsBeq t.op oIf = false) (c4 : natsBeq t.op oMatch = false) (c5 : natsBeq t.op oTry = false) (c6 : natsBeq t.op oSeq = false) :
    Gives14 E 45 h m fv F w CS q c N t oe en (gen (d + 1) t en S (CS.length + N.length) c.length) := by
  have hs := size_eq t
  have hty := e.ty
  have hpl := e.pl
  obtain ⟨M1, T1, B1⟩ := M.boxed t
  obtain ⟨l1, l2, l3, l4, l5, l6⟩ := leaf_no hg
  have hop : opJ t.op = opI t.op := hv.2.1 (by simp [arity, c0, c1, c2, c3, c4, c5, c6]) fun S => by simp [leafG, l1, l2, l3, l4, l5, l6]
  have hvk : ∀ k ∈ t.kids, Vd d k en := fun k hk => by
    obtain ⟨i, hi⟩ := List.mem_iff_getElem?.1 hk
    have hlt := (List.getElem?_eq_some_iff.1 hi).1
    have := hv.2.2 i hlt
    have e1 : kid t i = k := by
      have := kid_get hlt
      rw [hi] at this
      injection this with this
      exact this.symm
    rw [e1] at this
    simpa [bi, c0, c1, c2, c3, c4, c5] using this
  have hks : ∀ k ∈ t.kids, ∀ en S nf pos, LenG S k.size (8 * k.size) (gen d k en S nf pos) := fun k hk en S nf pos => gen_len d k en S nf pos ((arOk_kids ha).2 k hk)
  have n0 := LenG.genK (en := en) t.kids hks S (CS.length + N.length) c.length
  have hkl : t.kids.length ≤ sizes t.kids := by
    generalize t.kids = L
    induction L with
    | nil => simp [sizes]
    | cons a L ih => have := size_eq a; simp only [List.length_cons, sizes]; omega
  have G : gen (d + 1) t en S (CS.length + N.length) c.length = thenG (genK (gen d) en t.kids S (CS.length + N.length) c.length) (putG ⟨opI t.op, 0⟩) (CS.length + N.length) c.length := by simp only [gen, hg, c0, c1, c2, c3, c4, c5, c6, cond_true, cond_false]
  unfold Gives14
  rw [G]
  simp only [thenG, putG, List.append_nil]
  obtain ⟨y, hy⟩ : ∃ y, evL E 45 [.ptr (some (m, 0)), .int .i64 ↑q, t.av, .sl oe (strs en)] h = y := ⟨_, rfl⟩
  rw [hy]
  rw [evL_fn E (e.no 45 (by simp)) (by rw [e.fn]; kernel_rfl) body45 _ _ rfl] at hy
  simp only [codeAt, condAt, sub, Tryz.f45] at hy
  simp only [oFun, oLet, oRec, oIf, oMatch, oTry, oSeq] at c0 c1 c2 c3 c4 c5 c6
  simp only [oInt, oBool, oUnit, oNil, oStr, oVar] at l1 l2 l3 l4 l5 l6
  rw [cells_ t] at hy
  simp [EVT, endL, evSeq, evOne, evAct, evOp, opKind, evPure, evRead, evNew, evWrite, evSlice, natOf, optVal, readAt, AV.cells, wantedA, putTm, val, allVals, evBin, evInt, evStr, evAppend, evMin, nilCmp, denseFrom, sizesAre, onesIn, evPlan, recheck, H.new, H.put, fillF, fillAt, allOne, AV.one, setArgs, evRes, resOf, ofVal, ofVal0, isShift, ikBeq, TYC, hty, hpl, bytesOf, l1, l2, l3, l4, l5, l6, c0, c1, c2, c3, c4, c5, c6] at hy
  generalize hx : cdL E 45 143 (.loop b45_0) _ _ = x at hy
  obtain ⟨tm, h3, e1, ⟨fv3, F3, w3, M3, T3⟩, t0, t1, t6⟩ := loop45 (oe := oe) (m := m) (b := h.nx) (q := q) (t := t) (h := boxed h t) e nr hq ht ha hvk (by omega) b4 t.kids 0 hx rfl (Nat.zero_le _) (by simp [T.get_set_ite]) (by simp [T.get_set_ite]) (by simp [T.get_set_ite]) (by simp [T.get_set_ite]) (by simp [T.get_set_ite]) B1 M1 (by omega) (by omega) (by omega)
  have B3 := B1.step T3
  have g3 := B3.g
  simp only [ndC] at g3
  obtain ⟨h4, k4, fv4, F4, w4, M4, T4⟩ := add_st e M3 hq (by have := n0.2.2; simp; omega) (opI t.op) 0
  have k84 := fun h => op84_run (E := E) hty hpl (e.no 84 (by simp)) e.fn t.op h
  rw [hop] at k84
  rw [List.append_assoc] at M4
  refine ⟨h4, ?_, fv4, F4, w4, M4, (T1.trans T3).trans T4⟩
  subst e1
  simp [EVT, endL, evSeq, evOne, evAct, evOp, opKind, evPure, evRead, evNew, evWrite, evSlice, natOf, optVal, readAt, AV.cells, wantedA, putTm, val, allVals, evBin, evInt, evStr, evAppend, evMin, nilCmp, denseFrom, sizesAre, onesIn, evPlan, recheck, H.new, H.put, fillF, fillAt, allOne, AV.one, setArgs, evRes, resOf, ofVal, ofVal0, isShift, ikBeq, TYC, hty, hpl, t0, t1, t6, g3, k84, k4] at hy
  rw [← hy]
theorem nr14_step (e : EOk14 E) (nr : NR14 E d) : NR14 E (d + 1) := by
  intro t en oe h m fv F w S CS q c N ht ha hv M hq s1 s2 s3 s4
  have hs := size_eq t
  cases hg : leafG t.op t.name t.n en S with
  | some p =>
    obtain ⟨S', i⟩ := p
    have G : gen (d + 1) t en S (CS.length + N.length) c.length = (S', [], [i]) := by simp only [gen, hg]
    rw [G]
    exact node14_leaf e M hq hv.1 (by omega) (by omega) (by omega) hg
  | none =>
    cases c0 : natsBeq t.op oFun with
    | true => exact node14_fun e nr M hq ht ha hv s1 s2 s3 s4 hg c0
    | false =>
    cases c1 : natsBeq t.op oLet with
    | true => exact node14_let e nr M hq ht ha hv s1 s2 s3 s4 hg c0 c1
    | false =>
    cases c2 : natsBeq t.op oRec with
    | true => exact node14_rec e nr M hq ht ha hv s1 s2 s3 s4 hg c0 c1 c2
    | false =>
    cases c3 : natsBeq t.op oIf with
    | true => exact node14_if e nr M hq ht ha hv s1 s2 s3 s4 hg c0 c1 c2 c3
    | false =>
    cases c4 : natsBeq t.op oMatch with
    | true => exact node14_match e nr M hq ht ha hv s1 s2 s3 s4 hg c0 c1 c2 c3 c4
    | false =>
    cases c5 : natsBeq t.op oTry with
    | true => exact node14_try e nr M hq ht ha hv s1 s2 s3 s4 hg c0 c1 c2 c3 c4 c5
    | false =>
    cases c6 : natsBeq t.op oSeq with
    | true => exact node14_seq e nr M hq ht ha hv s1 s2 s3 s4 hg c0 c1 c2 c3 c4 c5 c6
    | false => exact node14_rest e nr M hq ht ha hv s1 s2 s3 s4 hg c0 c1 c2 c3 c4 c5 c6
theorem nr14_all (e : EOk14 E) : ∀ d, NR14 E d
  | 0 => fun t en oe h m fv F w S CS q c N ht => by have := dep_pos t; omega
  | d + 1 => nr14_step e (nr14_all e d)
end
end Go.Proofs.YtogjplcnmibnlaaGreatDoor.Env
/- Members of rows of strings. -/
namespace Go.Proofs.YtogjplcnmibnlaaGreatDoor.Tr
open Go.Proofs.YtogjplcnmibnlaaGreatDoor.Env Go.Ev Go.Ev.Nd

def idxS (v : List Nat) : List Str → Nat → Int
  | [], _ => -1
  | t :: l, i => bif natsBeq v t.s then ↑i else idxS v l (i + 1)
theorem idxS_neg {v : List Nat} : ∀ {l : List Str} (i : Nat), ltI (idxS v l i) 0 = !hasS l v
  | [], i => rfl
  | t :: l, i => by
    simp only [idxS, hasS, List.any_cons]
    cases hb : natsBeq v t.s with
    | true => simp only [cond_true, Bool.true_or, Bool.not_true, ltI_eq]; simp
    | false => simp only [cond_false, Bool.false_or]; exact idxS_neg (l := l) (i + 1)
noncomputable def b37_0 : Code := loopOf Tryz.f34 0
theorem body37 : Tryz.f34.body = some (.seq (codeAt Tryz.f34 [0]) (.seq (.seq (codeAt Tryz.f34 [1, 0, 0]) (.block 0 (.loop b37_0))) (codeAt Tryz.f34 [1, 1]))) := rfl
theorem loop37 {E : Env} (hty : E.ty = env.ty) (hpl : E.plan = env.plan) {o : Own} {L : List Str} {v : List Nat} (hl : L.length ≤ 9223372036854775807) : ∀ (l : List Str) (i : Nat) {tm : Tm} {h : H} {x : Option (Ex × Tm × H)}, cdL E 34 19 (.loop b37_0) tm h = x → l = L.drop i → i ≤ L.length →
    tm.get 0 = some (.sl o (strs L)) → tm.get 1 = some (.str v) → tm.get 7 = some (.int .i64 ↑L.length) → tm.get 8 = some (.int .i64 ↑i) → ∃ tm', x = some (bif hasS l v then .ret else .exit 0, tm', h) ∧ (hasS l v = true → tm'.get 4 = some (.int .i64 (idxS v l i)))
  | [], i, tm, h, x, hx, hd, hi, h0, h1, h7, h8 => by
    have hlen := dnil hd hi
    obtain ⟨R, hR, hx⟩ := loop_step hx
    simp [b37_0, loopOf, Tryz.f34, loops, EVT, endL, evSeq, evOne, evAct, evOp, opKind, evPure, evRead, evNew, evWrite, evSlice, natOf, optVal, readAt, AV.cells, wantedA, putTm, val, allVals, evBin, evInt, evStr, evAppend, evMin, nilCmp, denseFrom, sizesAre, onesIn, evPlan, recheck, H.new, H.put, fillF, fillAt, allOne, AV.one, setArgs, evRes, resOf, ofVal, ofVal0, isShift, ikBeq, TYC, lp, hty, hpl, h0, h1, h7, h8, hlen, ltI_f] at hx
    exact ⟨_, by rw [← hx]; rfl, by simp [hasS]⟩
  | c :: l, i, tm, h, x, hx, hd, hi, h0, h1, h7, h8 => by
    obtain ⟨hlt, hc, hd'⟩ := dcons hd
    have hat := strs_get hc
    obtain ⟨R, hR, hx⟩ := loop_step hx
    have hlt' := ltI_t hlt
    have hw := wr_succ (i := i) (by omega)
    cases hb : natsBeq v c.s with
    | true =>
      simp [b37_0, loopOf, Tryz.f34, loops, EVT, endL, evSeq, evOne, evAct, evOp, opKind, evPure, evRead, evNew, evWrite, evSlice, natOf, optVal, readAt, AV.cells, wantedA, putTm, val, allVals, evBin, evInt, evStr, evAppend, evMin, nilCmp, denseFrom, sizesAre, onesIn, evPlan, recheck, H.new, H.put, fillF, fillAt, allOne, AV.one, setArgs, evRes, resOf, ofVal, ofVal0, isShift, ikBeq, TYC, lp, hty, hpl, h0, h1, h7, h8, hlt', hat, hb, hw] at hx
      exact ⟨_, by rw [← hx]; simp [hasS, hb]; rfl, by simp [T.get_set_ite, idxS, hb]⟩
    | false =>
      simp [b37_0, loopOf, Tryz.f34, loops, EVT, endL, evSeq, evOne, evAct, evOp, opKind, evPure, evRead, evNew, evWrite, evSlice, natOf, optVal, readAt, AV.cells, wantedA, putTm, val, allVals, evBin, evInt, evStr, evAppend, evMin, nilCmp, denseFrom, sizesAre, onesIn, evPlan, recheck, H.new, H.put, fillF, fillAt, allOne, AV.one, setArgs, evRes, resOf, ofVal, ofVal0, isShift, ikBeq, TYC, lp, hty, hpl, h0, h1, h7, h8, hlt', hat, hb, hw] at hx
      rw [hR] at hx
      have e : hasS (c :: l) v = hasS l v := by simp [hasS, hb]
      have e2 : idxS v (c :: l) i = idxS v l (i + 1) := by simp [idxS, hb]
      rw [e, e2]
      exact loop37 hty hpl (o := o) (v := v) hl l (i + 1) hx hd' hlt (by simp [T.get_set_ite, h0]) (by simp [T.get_set_ite, h1]) (by simp [T.get_set_ite, h7]) (by simp [T.get_set_ite])
theorem index_run {E : Env} (hty : E.ty = env.ty) (hpl : E.plan = env.plan) (hp : E.prim 34 = none) (hfn : E.fns 34 = some Tryz.f34) (o : Own) (L : List Str) (v : List Nat) (hl : L.length ≤ 9223372036854775807) (h : H) : evL E 34 [.sl o (strs L), .str v] h = some (.int .i64 (idxS v L 0), h) := by
  have hil := strs_len L
  rw [evL_fn E hp hfn body37 _ _ rfl]
  simp only [codeAt, sub, Tryz.f34]
  simp [EVT, endL, evSeq, evOne, evAct, evOp, opKind, evPure, evRead, evNew, evWrite, evSlice, natOf, optVal, readAt, AV.cells, wantedA, putTm, val, allVals, evBin, evInt, evStr, evAppend, evMin, nilCmp, denseFrom, sizesAre, onesIn, evPlan, recheck, H.new, H.put, fillF, fillAt, allOne, AV.one, setArgs, evRes, resOf, ofVal, ofVal0, isShift, ikBeq, TYC, hty, hpl, hil]
  generalize hx : cdL E 34 19 (.loop b37_0) _ _ = x
  obtain ⟨tm', rfl, g⟩ := loop37 hty hpl (o := o) (v := v) hl L 0 hx rfl (Nat.zero_le _) (by simp [T.get_set_ite]) (by simp [T.get_set_ite]) (by simp [T.get_set_ite]) (by simp [T.get_set_ite])
  cases hb : hasS L v with
  | true => simp [EVT, endL, evSeq, evOne, evAct, evOp, opKind, evPure, evRead, evNew, evWrite, evSlice, natOf, optVal, readAt, AV.cells, wantedA, putTm, val, allVals, evBin, evInt, evStr, evAppend, evMin, nilCmp, denseFrom, sizesAre, onesIn, evPlan, recheck, H.new, H.put, fillF, fillAt, allOne, AV.one, setArgs, evRes, resOf, ofVal, ofVal0, isShift, ikBeq, TYC, hty, hpl, g hb]
  | false =>
    have : ∀ (l : List Str) (i : Nat), hasS l v = false → idxS v l i = -1 := by
      intro l
      induction l with
      | nil => intro i _; rfl
      | cons t l ih =>
        intro i hh
        simp only [hasS, List.any_cons, Bool.or_eq_false_iff] at hh
        simp only [idxS, hh.1, cond_false]
        exact ih (i + 1) hh.2
    rw [this L 0 hb]
    simp [EVT, endL, evSeq, evOne, evAct, evOp, opKind, evPure, evRead, evNew, evWrite, evSlice, natOf, optVal, readAt, AV.cells, wantedA, putTm, val, allVals, evBin, evInt, evStr, evAppend, evMin, nilCmp, denseFrom, sizesAre, onesIn, evPlan, recheck, H.new, H.put, fillF, fillAt, allOne, AV.one, setArgs, evRes, resOf, ofVal, ofVal0, isShift, ikBeq, TYC, hty, hpl]
noncomputable abbrev pHasS := primVal (ofRel (Rel2 (fun (L : List Str) (_ : Str) => L.length ≤ 9223372036854775807) (fun L v => hasS L v.s)))
theorem cHas {E : Env} {f : Nat} (hp : E.prim f = some pHasS) (o : Own) (L : List Str) (v : List Nat) (hl : L.length ≤ 9223372036854775807) (h : H) : evL E f [.sl o (strs L), .str v] h = some (.bool (hasS L v), h) :=
  prim2_call (α := List Str) (β := Str) (a := L) (b := ⟨v⟩) hp (strs_bare 0 o L) (by simp [AV.wk, Enc.enc]) hl h
theorem p27_ok : PrimOk Tryz.prog 18 pHasS := prim2_ok env_ok (fn := Tryz.f18) (by kernel_rfl) rfl (by kernel_rfl) fun L v hl => by
  have k37 := fun h => index_run (E := env) rfl rfl (by kernel_rfl) (by kernel_rfl) .no L v.s hl h
  have hb := idxS_neg (v := v.s) (l := L) 0
  rw [strs_enc, show (Enc.enc v : AV) = .str v.s from rfl, show (Enc.enc (hasS L v.s) : AV) = .bool (hasS L v.s) from rfl]
  unfold bodyL
  simp only [Tryz.f18]
  simp [EVT, endL, evSeq, evOne, evAct, evOp, opKind, evPure, evRead, evNew, evWrite, evSlice, natOf, optVal, readAt, AV.cells, wantedA, putTm, val, allVals, evBin, evInt, evStr, evAppend, evMin, nilCmp, denseFrom, sizesAre, onesIn, evPlan, recheck, H.new, H.put, fillF, fillAt, allOne, AV.one, setArgs, evRes, resOf, ofVal, ofVal0, isShift, ikBeq, TYC, k37, hb, AV.wk]
/-! ### the reference's -/
noncomputable def b40_0 : Code := loopOf Tryz.f25 0
theorem body40 : Tryz.f25.body = some (.seq (codeAt Tryz.f25 [0]) (.seq (.seq (codeAt Tryz.f25 [1, 0, 0]) (.block 0 (.loop b40_0))) (codeAt Tryz.f25 [1, 1]))) := rfl
theorem loop40 {o : Own} {L : List Str} {v : List Nat} (hl : L.length ≤ 9223372036854775807) : ∀ (l : List Str) (i : Nat) {tm : Tm} {h : H} {x : Option (Ex × Tm × H)}, cdL env 25 18 (.loop b40_0) tm h = x → l = L.drop i → i ≤ L.length →
    tm.get 0 = some (.sl o (strs L)) → tm.get 1 = some (.str v) → tm.get 5 = some (.int .i64 ↑i) → ∃ tm', x = some (bif hasS l v then .ret else .exit 0, tm', h) ∧ (hasS l v = true → tm'.get 4 = some (.bool true))
  | [], i, tm, h, x, hx, hd, hi, h0, h1, h5 => by
    have hlen := dnil hd hi
    have hil := strs_len L
    rw [hlen] at hil
    obtain ⟨R, hR, hx⟩ := loop_step hx
    simp [b40_0, loopOf, Tryz.f25, loops, EVT, endL, evSeq, evOne, evAct, evOp, opKind, evPure, evRead, evNew, evWrite, evSlice, natOf, optVal, readAt, AV.cells, wantedA, putTm, val, allVals, evBin, evInt, evStr, evAppend, evMin, nilCmp, denseFrom, sizesAre, onesIn, evPlan, recheck, H.new, H.put, fillF, fillAt, allOne, AV.one, setArgs, evRes, resOf, ofVal, ofVal0, isShift, ikBeq, TYC, lp, h0, h1, h5, hil, ltI_f] at hx
    exact ⟨_, by rw [← hx]; rfl, by simp [hasS]⟩
  | c :: l, i, tm, h, x, hx, hd, hi, h0, h1, h5 => by
    obtain ⟨hlt, hc, hd'⟩ := dcons hd
    have hat := strs_get hc
    have hil := strs_len L
    obtain ⟨R, hR, hx⟩ := loop_step hx
    have hlt' := ltI_t hlt
    have hw := wr_succ (i := i) (by omega)
    have hcm := natsBeq_comm c.s v
    cases hb : natsBeq v c.s with
    | true =>
      rw [hb] at hcm
      simp [b40_0, loopOf, Tryz.f25, loops, EVT, endL, evSeq, evOne, evAct, evOp, opKind, evPure, evRead, evNew, evWrite, evSlice, natOf, optVal, readAt, AV.cells, wantedA, putTm, val, allVals, evBin, evInt, evStr, evAppend, evMin, nilCmp, denseFrom, sizesAre, onesIn, evPlan, recheck, H.new, H.put, fillF, fillAt, allOne, AV.one, setArgs, evRes, resOf, ofVal, ofVal0, isShift, ikBeq, TYC, lp, h0, h1, h5, hlt', hil, hat, hcm, hw] at hx
      exact ⟨_, by rw [← hx]; simp [hasS, hb]; rfl, by simp [T.get_set_ite]⟩
    | false =>
      rw [hb] at hcm
      simp [b40_0, loopOf, Tryz.f25, loops, EVT, endL, evSeq, evOne, evAct, evOp, opKind, evPure, evRead, evNew, evWrite, evSlice, natOf, optVal, readAt, AV.cells, wantedA, putTm, val, allVals, evBin, evInt, evStr, evAppend, evMin, nilCmp, denseFrom, sizesAre, onesIn, evPlan, recheck, H.new, H.put, fillF, fillAt, allOne, AV.one, setArgs, evRes, resOf, ofVal, ofVal0, isShift, ikBeq, TYC, lp, h0, h1, h5, hlt', hil, hat, hcm, hw] at hx
      rw [hR] at hx
      have e : hasS (c :: l) v = hasS l v := by simp [hasS, hb]
      rw [e]
      exact loop40 (o := o) (v := v) hl l (i + 1) hx hd' hlt (by simp [T.get_set_ite, h0]) (by simp [T.get_set_ite, h1]) (by simp [T.get_set_ite])
theorem p40_ok : PrimOk Tryz.prog 25 pHasS := prim2_ok env_ok (fn := Tryz.f25) (by kernel_rfl) body40 (by kernel_rfl) fun L v hl => by
  rw [strs_enc, show (Enc.enc v : AV) = .str v.s from rfl, show (Enc.enc (hasS L v.s) : AV) = .bool (hasS L v.s) from rfl]
  unfold bodyL
  simp only [codeAt, sub, Tryz.f25]
  simp [EVT, endL, evSeq, evOne, evAct, evOp, opKind, evPure, evRead, evNew, evWrite, evSlice, natOf, optVal, readAt, AV.cells, wantedA, putTm, val, allVals, evBin, evInt, evStr, evAppend, evMin, nilCmp, denseFrom, sizesAre, onesIn, evPlan, recheck, H.new, H.put, fillF, fillAt, allOne, AV.one, setArgs, evRes, resOf, ofVal, ofVal0, isShift, ikBeq, TYC]
  generalize hx : cdL env 25 18 (.loop b40_0) _ _ = x
  obtain ⟨tm', rfl, g⟩ := loop40 (o := .no) (v := v.s) hl L 0 hx rfl (Nat.zero_le _) (by simp [T.get_set_ite]) (by simp [T.get_set_ite]) (by simp [T.get_set_ite])
  cases hb : hasS L v.s with
  | true => simp [EVT, endL, evSeq, evOne, evAct, evOp, opKind, evPure, evRead, evNew, evWrite, evSlice, natOf, optVal, readAt, AV.cells, wantedA, putTm, val, allVals, evBin, evInt, evStr, evAppend, evMin, nilCmp, denseFrom, sizesAre, onesIn, evPlan, recheck, H.new, H.put, fillF, fillAt, allOne, AV.one, setArgs, evRes, resOf, ofVal, ofVal0, isShift, ikBeq, TYC, g hb, AV.wk]
  | false => simp [EVT, endL, evSeq, evOne, evAct, evOp, opKind, evPure, evRead, evNew, evWrite, evSlice, natOf, optVal, readAt, AV.cells, wantedA, putTm, val, allVals, evBin, evInt, evStr, evAppend, evMin, nilCmp, denseFrom, sizesAre, onesIn, evPlan, recheck, H.new, H.put, fillF, fillAt, allOne, AV.one, setArgs, evRes, resOf, ofVal, ofVal0, isShift, ikBeq, TYC, AV.wk]
/-! ### Rows -/
def rowsL : List Str → List Str → Bool
  | [], _ => true
  | _ :: _, [] => false
  | a :: l, b :: m => natsBeq a.s b.s && rowsL l m
def rowsF (a b : List Str) : Bool := intBeq ↑a.length ↑b.length && rowsL a b
theorem rowsL_self : ∀ l : List Str, rowsL l l = true
  | [] => rfl
  | a :: l => by simp [rowsL, natsBeq_iff.2 (rfl : a.s = a.s), rowsL_self l]
theorem rowsF_self (a : List Str) : rowsF a a = true := by simp [rowsF, rowsL_self, intBeq_iff.2 (rfl : (↑a.length : Int) = _)]
end Go.Proofs.YtogjplcnmibnlaaGreatDoor.Tr
