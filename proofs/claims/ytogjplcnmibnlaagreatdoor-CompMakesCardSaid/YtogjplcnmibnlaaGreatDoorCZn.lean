/- Two programs of one text are the same. -/
import Derived.Test.YtogjplcnmibnlaaGreatDoorCZm
set_option autoImplicit false
set_option maxRecDepth 100000
set_option maxHeartbeats 8000000
set_option linter.unusedSimpArgs false
set_option linter.unusedVariables false
namespace Go.Proofs.YtogjplcnmibnlaaGreatDoor.Env
open Go.Ev Go.Ev.Nd

noncomputable def b10_0 : Code := loopOf Tryz.f10 0
noncomputable def b10_1 : Code := loopOf Tryz.f10 1
noncomputable def b10_2 : Code := loopOf Tryz.f10 2
theorem body10 : Tryz.f10.body = some (.seq (codeAt Tryz.f10 [0]) (.seq (codeAt Tryz.f10 [1, 0]) (.seq (.seq (codeAt Tryz.f10 [1, 1, 0, 0]) (.block 0 (.loop b10_0))) (.seq (.seq (codeAt Tryz.f10 [1, 1, 1, 0, 0]) (.block 2 (.loop b10_1))) (codeAt Tryz.f10 [1, 1, 1, 1]))))) := rfl
theorem lb10_1 : b10_1 = (.seq (codeAt Tryz.f10 [1, 1, 1, 0, 1, 0, 0, 0]) (.seq (.block 3 (.seq (codeAt Tryz.f10 [1, 1, 1, 0, 1, 0, 0, 1, 0, 0, 0]) (.seq (codeAt Tryz.f10 [1, 1, 1, 0, 1, 0, 0, 1, 0, 0, 1, 0]) (.block 4 (.loop b10_2))))) (codeAt Tryz.f10 [1, 1, 1, 0, 1, 0, 0, 1, 1]))) := rfl
theorem insC_at : ∀ (l : List Ins) (j : Nat) (x : Ins), l[j]? = some x → (insC l).drop (j * 2) = .int .i64 x.op :: .int .i64 x.n :: insC (l.drop (j + 1))
  | [], j, x, h => by simp at h
  | i :: l, 0, x, h => by simp at h; subst h; simp [insC]
  | i :: l, j + 1, x, h => by
    have := insC_at l j x (by simpa using h)
    rw [show (j + 1) * 2 = j * 2 + 1 + 1 by omega]
    simp only [insC, List.drop_succ_cons, this]
/-- What the comparison looks at. -/
structure SameR (h : H) (b2 b3 : Nat) (d : Int) (fv1 fv2 : AV) (F1 F2 : List AV) (w1 w2 : Go.Ev.Own) (C : List (List Ins)) (S : List Str) : Prop where
  g2 : h.t.get b2 = some (.cells [.int .i64 d, fv1, .sl w1 (strs S)])
  g3 : h.t.get b3 = some (.cells [.int .i64 d, fv2, .sl w2 (strs S)])
  r1 : FunsR h fv1 F1
  r2 : FunsR h fv2 F2
  l1 : F1.length = C.length
  l2 : F2.length = C.length
  c1 : ∀ (i : Nat) x c, F1[i]? = some x → C[i]? = some c → CodeR h x c
  c2 : ∀ (i : Nat) x c, F2[i]? = some x → C[i]? = some c → CodeR h x c
theorem nb_self (a : List Nat) : natsBeq a a = true := by rw [natsBeq_eq]; simp
theorem loop10_0 {E : Env} (e : EOf E) {b2 b3 : Nat} {d : Int} {fv1 fv2 : AV} {F1 F2 : List AV} {w1 w2 : Go.Ev.Own} {C : List (List Ins)} {S : List Str} {h : H} (s : SameR h b2 b3 d fv1 fv2 F1 F2 w1 w2 C S) (hS : S.length ≤ 1000000) : ∀ (l : List Str) (i : Nat) {tm : Tm} {x : Option (Ex × Tm × H)}, cdL E 10 96 (.loop b10_0) tm h = x → l = S.drop i → i ≤ S.length →
    tm.get 2 = some (.ptr (some (b2, 0))) → tm.get 3 = some (.ptr (some (b3, 0))) → tm.get 5 = some (.int .i64 ↑i) →
    ∃ tm', x = some (.exit 0, tm', h) ∧ tm'.get 2 = some (.ptr (some (b2, 0))) ∧ tm'.get 3 = some (.ptr (some (b3, 0)))
  | [], i, tm, x, hx, hd, hi, h2, h3, h5 => by
    have hlen := dnil hd hi
    have hty := e.ty
    have hpl := e.pl
    have hil := strs_len S
    have g2 := s.g2
    have g3 := s.g3
    obtain ⟨R, hR, hx⟩ := loop_step hx
    simp [b10_0, loopOf, Tryz.f10, loops, EVT, endL, evSeq, evOne, evAct, evOp, opKind, evPure, evRead, evNew, evWrite, evSlice, natOf, optVal, readAt, AV.cells, wantedA, putTm, val, allVals, evBin, evInt, evStr, evAppend, evMin, nilCmp, denseFrom, sizesAre, onesIn, evPlan, recheck, H.new, H.put, fillF, fillAt, allOne, AV.one, setArgs, evRes, resOf, ofVal, ofVal0, isShift, ikBeq, TYC, lp, hty, hpl, h2, h3, h5, g2, g3, hlen, hil, ltI_f] at hx
    exact ⟨_, by rw [← hx], by simp [T.get_set_ite, h2], by simp [T.get_set_ite, h3]⟩
  | c :: l, i, tm, x, hx, hd, hi, h2, h3, h5 => by
    obtain ⟨hlt, hc, hd'⟩ := dcons hd
    have hty := e.ty
    have hpl := e.pl
    have hil := strs_len S
    have hat := strs_get hc
    have g2 := s.g2
    have g3 := s.g3
    have hb := nb_self c.s
    obtain ⟨R, hR, hx⟩ := loop_step hx
    have hlt' := ltI_t hlt
    have hw := wr_succ (i := i) (by omega)
    simp [b10_0, loopOf, Tryz.f10, loops, EVT, endL, evSeq, evOne, evAct, evOp, opKind, evPure, evRead, evNew, evWrite, evSlice, natOf, optVal, readAt, AV.cells, wantedA, putTm, val, allVals, evBin, evInt, evStr, evAppend, evMin, nilCmp, denseFrom, sizesAre, onesIn, evPlan, recheck, H.new, H.put, fillF, fillAt, allOne, AV.one, setArgs, evRes, resOf, ofVal, ofVal0, isShift, ikBeq, TYC, lp, hty, hpl, h2, h3, h5, g2, g3, hlt', hil, hat, hb, hw] at hx
    rw [hR] at hx
    exact loop10_0 e s hS l (i + 1) hx hd' hlt (by simp [T.get_set_ite, h2]) (by simp [T.get_set_ite, h3]) (by simp [T.get_set_ite])
theorem loop10_2 {E : Env} (e : EOf E) {b2 b3 k n id1 id2 : Nat} {d : Int} {F1 F2 : List AV} {w1 w2 : Go.Ev.Own} {S : List Str} {c : List Ins} {v1 v2 : AV} {h : H}
    (g2 : h.t.get b2 = some (.cells [.int .i64 d, .rs id1 n true, .sl w1 (strs S)])) (g3 : h.t.get b3 = some (.cells [.int .i64 d, .rs id2 n true, .sl w2 (strs S)])) (r1 : h.t.get id1 = some (.row n 54 1 F1)) (r2 : h.t.get id2 = some (.row n 54 1 F2)) (l1 : F1.length = n) (l2 : F2.length = n) (hk : k < n)
    (a1 : F1[k]? = some v1) (a2 : F2[k]? = some v2) (c1 : CodeR h v1 c) (c2 : CodeR h v2 c) (hc : c.length ≤ 1000000) : ∀ (l : List Ins) (i : Nat) {tm : Tm} {x : Option (Ex × Tm × H)}, cdL E 10 96 (.loop b10_2) tm h = x → l = c.drop i → i ≤ c.length →
    tm.get 2 = some (.ptr (some (b2, 0))) → tm.get 3 = some (.ptr (some (b3, 0))) → tm.get 6 = some (.int .i64 ↑k) → tm.get 7 = some (.int .i64 ↑i) →
    ∃ tm', x = some (.exit 4, tm', h) ∧ tm'.get 2 = some (.ptr (some (b2, 0))) ∧ tm'.get 3 = some (.ptr (some (b3, 0))) ∧ tm'.get 6 = some (.int .i64 ↑k)
  | [], i, tm, x, hx, hd, hi, h2, h3, h6, h7 => by
    have hlen := dnil hd hi
    have hty := e.ty
    have hpl := e.pl
    have hbl : Nat.blt k n = true := blt_nat.2 hk
    have hle : k + 1 ≤ n := hk
    have hkF : k < F1.length := by omega
    have hve : F1[k] = v1 := (List.getElem?_eq_some_iff.1 a1).2
    have hcell := c1.cell
    have hone := c1.one
    obtain ⟨R, hR, hx⟩ := loop_step hx
    rcases c1 with ⟨rfl, rfl⟩ | ⟨id', rfl, hg', hi'⟩
    · have h00 : ltI ↑i 0 = false := by rw [ltI_eq]; simp
      simp [b10_2, loopOf, Tryz.f10, loops, EVT, endL, evSeq, evOne, evAct, evOp, opKind, evPure, evRead, evNew, evWrite, evSlice, natOf, optVal, readAt, AV.cells, wantedA, putTm, val, allVals, evBin, evInt, evStr, evAppend, evMin, nilCmp, denseFrom, sizesAre, onesIn, evPlan, recheck, H.new, H.put, fillF, fillAt, allOne, AV.one, setArgs, evRes, resOf, ofVal, ofVal0, isShift, ikBeq, TYC, lp, hty, hpl, h2, h3, h6, h7, g2, g3, r1, a1, l1, hk, hbl, hle, hkF, hve, h00] at hx
      exact ⟨_, by rw [← hx], by simp [T.get_set_ite, h2], by simp [T.get_set_ite, h3], by simp [T.get_set_ite, h6]⟩
    · simp [b10_2, loopOf, Tryz.f10, loops, EVT, endL, evSeq, evOne, evAct, evOp, opKind, evPure, evRead, evNew, evWrite, evSlice, natOf, optVal, readAt, AV.cells, wantedA, putTm, val, allVals, evBin, evInt, evStr, evAppend, evMin, nilCmp, denseFrom, sizesAre, onesIn, evPlan, recheck, H.new, H.put, fillF, fillAt, allOne, AV.one, setArgs, evRes, resOf, ofVal, ofVal0, isShift, ikBeq, TYC, lp, hty, hpl, h2, h3, h6, h7, g2, g3, r1, a1, l1, hk, hbl, hle, hkF, hve, hlen, ltI_f] at hx
      exact ⟨_, by rw [← hx], by simp [T.get_set_ite, h2], by simp [T.get_set_ite, h3], by simp [T.get_set_ite, h6]⟩
  | y :: l, i, tm, x, hx, hd, hi, h2, h3, h6, h7 => by
    obtain ⟨hlt, hcy, hd'⟩ := dcons hd
    have hty := e.ty
    have hpl := e.pl
    have hbl : Nat.blt k n = true := blt_nat.2 hk
    have hle : k + 1 ≤ n := hk
    have hkF : k < F1.length := by omega
    have hkF2 : k < F2.length := by omega
    have hve : F1[k] = v1 := (List.getElem?_eq_some_iff.1 a1).2
    have hve2 : F2[k] = v2 := (List.getElem?_eq_some_iff.1 a2).2
    obtain ⟨i1, e1, hg1, hi1⟩ : ∃ id, v1 = .rs id c.length true ∧ h.t.get id = some (.row c.length 62 2 (insC c)) ∧ id < h.nx := by
      rcases c1 with ⟨_, e⟩ | h
      · rw [e] at hlt; simp at hlt
      · exact h
    obtain ⟨i2, e2, hg2, hi2⟩ : ∃ id, v2 = .rs id c.length true ∧ h.t.get id = some (.row c.length 62 2 (insC c)) ∧ id < h.nx := by
      rcases c2 with ⟨_, e⟩ | h
      · rw [e] at hlt; simp at hlt
      · exact h
    subst e1
    subst e2
    have hat := insC_at c i y hcy
    have hlen2 := insC_len c
    have hle2 : i * 2 + 2 ≤ c.length * 2 := by omega
    have hblt : Nat.blt i c.length = true := blt_nat.2 hlt
    have q1 : intBeq y.op y.op = true := intBeq_iff.2 rfl
    have q2 : intBeq y.n y.n = true := intBeq_iff.2 rfl
    obtain ⟨R, hR, hx⟩ := loop_step hx
    have hlt' := ltI_t hlt
    have hw := wr_succ (i := i) (by omega)
    simp [b10_2, loopOf, Tryz.f10, loops, EVT, endL, evSeq, evOne, evAct, evOp, opKind, evPure, evRead, evNew, evWrite, evSlice, natOf, optVal, readAt, AV.cells, wantedA, putTm, val, allVals, evBin, evInt, evStr, evAppend, evMin, nilCmp, denseFrom, sizesAre, onesIn, evPlan, recheck, H.new, H.put, fillF, fillAt, allOne, AV.one, setArgs, evRes, resOf, ofVal, ofVal0, isShift, ikBeq, TYC, lp, hty, hpl, h2, h3, h6, h7, g2, g3, r1, r2, a1, a2, l1, l2, hk, hbl, hle, hkF, hkF2, hve, hve2, hlt', hlt, hblt, hg1, hg2, hlen2, hle2, hat, hw, evFlat, cellEq, q1, q2, ikBeq] at hx
    rw [hR] at hx
    exact loop10_2 e g2 g3 r1 r2 l1 l2 hk a1 a2 c1 c2 hc l (i + 1) hx hd' hlt (by simp [T.get_set_ite, h2]) (by simp [T.get_set_ite, h3]) (by simp [T.get_set_ite, h6]) (by simp [T.get_set_ite])
theorem loop10_1 {E : Env} (e : EOf E) {b2 b3 : Nat} {d : Int} {fv1 fv2 : AV} {F1 F2 : List AV} {w1 w2 : Go.Ev.Own} {C : List (List Ins)} {S : List Str} {h : H} (s : SameR h b2 b3 d fv1 fv2 F1 F2 w1 w2 C S) (hC : C.length ≤ 1000000) (hCl : ∀ c ∈ C, c.length ≤ 1000000) : ∀ (l : List (List Ins)) (i : Nat) {tm : Tm} {x : Option (Ex × Tm × H)}, cdL E 10 96 (.loop b10_1) tm h = x → l = C.drop i → i ≤ C.length →
    tm.get 2 = some (.ptr (some (b2, 0))) → tm.get 3 = some (.ptr (some (b3, 0))) → tm.get 6 = some (.int .i64 ↑i) →
    ∃ tm', x = some (.exit 2, tm', h)
  | [], i, tm, x, hx, hd, hi, h2, h3, h6 => by
    have hlen := dnil hd hi
    have hty := e.ty
    have hpl := e.pl
    have g2 := s.g2
    have g3 := s.g3
    obtain ⟨R, hR, hx⟩ := loop_step hx
    rw [lb10_1] at hx
    simp only [codeAt, condAt, sub, Tryz.f10] at hx
    have hl1 := s.l1
    rcases s.r1 with ⟨rfl, e1⟩ | ⟨id, rfl, hg, _⟩
    · have : C.length = 0 := by rw [← hl1, e1]; rfl
      have h00 : ltI ↑i 0 = false := by rw [ltI_eq]; simp
      simp [EVT, endL, evSeq, evOne, evAct, evOp, opKind, evPure, evRead, evNew, evWrite, evSlice, natOf, optVal, readAt, AV.cells, wantedA, putTm, val, allVals, evBin, evInt, evStr, evAppend, evMin, nilCmp, denseFrom, sizesAre, onesIn, evPlan, recheck, H.new, H.put, fillF, fillAt, allOne, AV.one, setArgs, evRes, resOf, ofVal, ofVal0, isShift, ikBeq, TYC, lp, hty, hpl, h2, h3, h6, g2, g3, h00] at hx
      exact ⟨_, by rw [← hx]⟩
    · rw [hl1] at g2
      simp [EVT, endL, evSeq, evOne, evAct, evOp, opKind, evPure, evRead, evNew, evWrite, evSlice, natOf, optVal, readAt, AV.cells, wantedA, putTm, val, allVals, evBin, evInt, evStr, evAppend, evMin, nilCmp, denseFrom, sizesAre, onesIn, evPlan, recheck, H.new, H.put, fillF, fillAt, allOne, AV.one, setArgs, evRes, resOf, ofVal, ofVal0, isShift, ikBeq, TYC, lp, hty, hpl, h2, h3, h6, g2, g3, hlen, ltI_f] at hx
      exact ⟨_, by rw [← hx]⟩
  | c :: l, i, tm, x, hx, hd, hi, h2, h3, h6 => by
    obtain ⟨hlt, hc, hd'⟩ := dcons hd
    have hty := e.ty
    have hpl := e.pl
    have g2 := s.g2
    have g3 := s.g3
    have hl1 := s.l1
    have hl2 := s.l2
    obtain ⟨id1, e1, hg1, _⟩ : ∃ id, fv1 = .rs id F1.length true ∧ h.t.get id = some (.row F1.length 54 1 F1) ∧ id < h.nx := by
      rcases s.r1 with ⟨_, e⟩ | h
      · rw [e] at hl1; simp at hl1; omega
      · exact h
    obtain ⟨id2, e2, hg2, _⟩ : ∃ id, fv2 = .rs id F2.length true ∧ h.t.get id = some (.row F2.length 54 1 F2) ∧ id < h.nx := by
      rcases s.r2 with ⟨_, e⟩ | h
      · rw [e] at hl2; simp at hl2; omega
      · exact h
    subst e1
    subst e2
    rw [hl1] at g2 hg1
    rw [hl2] at g3 hg2
    have hk1 : i < F1.length := by omega
    have hk2 : i < F2.length := by omega
    have a1 : F1[i]? = some F1[i] := List.getElem?_eq_getElem hk1
    have a2 : F2[i]? = some F2[i] := List.getElem?_eq_getElem hk2
    have c1 := s.c1 i _ c a1 hc
    have c2 := s.c2 i _ c a2 hc
    obtain ⟨v1, hv1⟩ : ∃ v, F1[i] = v := ⟨_, rfl⟩
    obtain ⟨v2, hv2⟩ : ∃ v, F2[i] = v := ⟨_, rfl⟩
    rw [hv1] at a1 c1
    rw [hv2] at a2 c2
    have hbl : Nat.blt i C.length = true := blt_nat.2 hlt
    have hle : i + 1 ≤ C.length := hlt
    have hcell1 := c1.cell
    have hone1 := c1.one
    have hcell2 := c2.cell
    have hone2 := c2.one
    obtain ⟨R, hR, hx⟩ := loop_step hx
    have hlt' := ltI_t hlt
    have hw := wr_succ (i := i) (by omega)
    have hq : intBeq ↑c.length ↑c.length = true := intBeq_iff.2 rfl
    rw [lb10_1] at hx
    simp only [codeAt, condAt, sub, Tryz.f10] at hx
    have go : ∃ (tmA : Tm) (y : Option (Ex × Tm × H)), cdL E 10 96 (.loop b10_2) tmA h = y ∧ tmA.get 2 = some (.ptr (some (b2, 0))) ∧ tmA.get 3 = some (.ptr (some (b3, 0))) ∧ tmA.get 6 = some (.int .i64 ↑i) ∧ tmA.get 7 = some (.int .i64 ↑(0 : Nat)) ∧
        ∀ tm', y = some (.exit 4, tm', h) → tm'.get 6 = some (.int .i64 ↑i) → ∃ tm2, x = R tm2 h ∧ tm2.get 6 = some (.int .i64 ↑(i + 1)) ∧ tm2.get 2 = tm'.get 2 ∧ tm2.get 3 = tm'.get 3 := by
      rcases c1 with ⟨rfl, rfl⟩ | ⟨i1, rfl, hgc1, _⟩
      · rcases c2 with ⟨rfl, _⟩ | ⟨i2, rfl, hgc2, _⟩
        · simp [EVT, endL, evSeq, evOne, evAct, evOp, opKind, evPure, evRead, evNew, evWrite, evSlice, natOf, optVal, readAt, AV.cells, wantedA, putTm, val, allVals, evBin, evInt, evStr, evAppend, evMin, nilCmp, denseFrom, sizesAre, onesIn, evPlan, recheck, H.new, H.put, fillF, fillAt, allOne, AV.one, setArgs, evRes, resOf, ofVal, ofVal0, isShift, ikBeq, TYC, lp, hty, hpl, h2, h3, h6, g2, g3, hlt', hg1, hg2, a1, a2, hl1, hl2, hlt, hbl, hle, hk1, hk2, hv1, hv2, hq, intBeq] at hx
          generalize hy : cdL E 10 96 (.loop b10_2) _ _ = y at hx
          exact ⟨_, y, hy, by simp [T.get_set_ite, h2], by simp [T.get_set_ite, h3], by simp [T.get_set_ite, h6], by simp [T.get_set_ite], fun tm' ey g6 => by
            subst ey
            simp [EVT, endL, evSeq, evOne, evAct, evOp, opKind, evPure, evRead, evNew, evWrite, evSlice, natOf, optVal, readAt, AV.cells, wantedA, putTm, val, allVals, evBin, evInt, evStr, evAppend, evMin, nilCmp, denseFrom, sizesAre, onesIn, evPlan, recheck, H.new, H.put, fillF, fillAt, allOne, AV.one, setArgs, evRes, resOf, ofVal, ofVal0, isShift, ikBeq, TYC, lp, hty, hpl, g6, hw] at hx
            exact ⟨_, hx.symm, by simp [T.get_set_ite], by simp [T.get_set_ite], by simp [T.get_set_ite]⟩⟩
        · simp [EVT, endL, evSeq, evOne, evAct, evOp, opKind, evPure, evRead, evNew, evWrite, evSlice, natOf, optVal, readAt, AV.cells, wantedA, putTm, val, allVals, evBin, evInt, evStr, evAppend, evMin, nilCmp, denseFrom, sizesAre, onesIn, evPlan, recheck, H.new, H.put, fillF, fillAt, allOne, AV.one, setArgs, evRes, resOf, ofVal, ofVal0, isShift, ikBeq, TYC, lp, hty, hpl, h2, h3, h6, g2, g3, hlt', hg1, hg2, a1, a2, hl1, hl2, hlt, hbl, hle, hk1, hk2, hv1, hv2, hq, intBeq] at hx
          generalize hy : cdL E 10 96 (.loop b10_2) _ _ = y at hx
          exact ⟨_, y, hy, by simp [T.get_set_ite, h2], by simp [T.get_set_ite, h3], by simp [T.get_set_ite, h6], by simp [T.get_set_ite], fun tm' ey g6 => by
            subst ey
            simp [EVT, endL, evSeq, evOne, evAct, evOp, opKind, evPure, evRead, evNew, evWrite, evSlice, natOf, optVal, readAt, AV.cells, wantedA, putTm, val, allVals, evBin, evInt, evStr, evAppend, evMin, nilCmp, denseFrom, sizesAre, onesIn, evPlan, recheck, H.new, H.put, fillF, fillAt, allOne, AV.one, setArgs, evRes, resOf, ofVal, ofVal0, isShift, ikBeq, TYC, lp, hty, hpl, g6, hw] at hx
            exact ⟨_, hx.symm, by simp [T.get_set_ite], by simp [T.get_set_ite], by simp [T.get_set_ite]⟩⟩
      · rcases c2 with ⟨rfl, e0⟩ | ⟨i2, rfl, hgc2, _⟩
        · subst e0
          simp [EVT, endL, evSeq, evOne, evAct, evOp, opKind, evPure, evRead, evNew, evWrite, evSlice, natOf, optVal, readAt, AV.cells, wantedA, putTm, val, allVals, evBin, evInt, evStr, evAppend, evMin, nilCmp, denseFrom, sizesAre, onesIn, evPlan, recheck, H.new, H.put, fillF, fillAt, allOne, AV.one, setArgs, evRes, resOf, ofVal, ofVal0, isShift, ikBeq, TYC, lp, hty, hpl, h2, h3, h6, g2, g3, hlt', hg1, hg2, a1, a2, hl1, hl2, hlt, hbl, hle, hk1, hk2, hv1, hv2, hq, intBeq] at hx
          generalize hy : cdL E 10 96 (.loop b10_2) _ _ = y at hx
          exact ⟨_, y, hy, by simp [T.get_set_ite, h2], by simp [T.get_set_ite, h3], by simp [T.get_set_ite, h6], by simp [T.get_set_ite], fun tm' ey g6 => by
            subst ey
            simp [EVT, endL, evSeq, evOne, evAct, evOp, opKind, evPure, evRead, evNew, evWrite, evSlice, natOf, optVal, readAt, AV.cells, wantedA, putTm, val, allVals, evBin, evInt, evStr, evAppend, evMin, nilCmp, denseFrom, sizesAre, onesIn, evPlan, recheck, H.new, H.put, fillF, fillAt, allOne, AV.one, setArgs, evRes, resOf, ofVal, ofVal0, isShift, ikBeq, TYC, lp, hty, hpl, g6, hw] at hx
            exact ⟨_, hx.symm, by simp [T.get_set_ite], by simp [T.get_set_ite], by simp [T.get_set_ite]⟩⟩
        · simp [EVT, endL, evSeq, evOne, evAct, evOp, opKind, evPure, evRead, evNew, evWrite, evSlice, natOf, optVal, readAt, AV.cells, wantedA, putTm, val, allVals, evBin, evInt, evStr, evAppend, evMin, nilCmp, denseFrom, sizesAre, onesIn, evPlan, recheck, H.new, H.put, fillF, fillAt, allOne, AV.one, setArgs, evRes, resOf, ofVal, ofVal0, isShift, ikBeq, TYC, lp, hty, hpl, h2, h3, h6, g2, g3, hlt', hg1, hg2, a1, a2, hl1, hl2, hlt, hbl, hle, hk1, hk2, hv1, hv2, hq] at hx
          generalize hy : cdL E 10 96 (.loop b10_2) _ _ = y at hx
          exact ⟨_, y, hy, by simp [T.get_set_ite, h2], by simp [T.get_set_ite, h3], by simp [T.get_set_ite, h6], by simp [T.get_set_ite], fun tm' ey g6 => by
            subst ey
            simp [EVT, endL, evSeq, evOne, evAct, evOp, opKind, evPure, evRead, evNew, evWrite, evSlice, natOf, optVal, readAt, AV.cells, wantedA, putTm, val, allVals, evBin, evInt, evStr, evAppend, evMin, nilCmp, denseFrom, sizesAre, onesIn, evPlan, recheck, H.new, H.put, fillF, fillAt, allOne, AV.one, setArgs, evRes, resOf, ofVal, ofVal0, isShift, ikBeq, TYC, lp, hty, hpl, g6, hw] at hx
            exact ⟨_, hx.symm, by simp [T.get_set_ite], by simp [T.get_set_ite], by simp [T.get_set_ite]⟩⟩
    obtain ⟨tmA, y, hy, t2, t3, t6, t7, fin⟩ := go
    obtain ⟨tm', ey, u2, u3, u6⟩ := loop10_2 e g2 g3 hg1 hg2 hl1 hl2 hlt a1 a2 c1 c2 (hCl c (List.mem_of_getElem? hc)) c 0 hy rfl (Nat.zero_le _) t2 t3 t6 t7
    obtain ⟨tm2, hx2, x6, x2, x3⟩ := fin tm' ey u6
    rw [hR] at hx2
    exact loop10_1 e s hC hCl l (i + 1) hx2.symm hd' hlt (x2.trans u2) (x3.trans u3) x6
theorem same_run {E : Env} (e : EOf E) {h : H} {v1 v2 : AV} {d : Int} {C : List (List Ins)} {S : List Str} (p1 : PR h v1 d C S) (p2 : PR h v2 d C S) (hC : C.length ≤ 1000000) (hCl : ∀ c ∈ C, c.length ≤ 1000000) (hS : S.length ≤ 1000000) :
    ∃ h', evL E 10 [v1, v2] h = some (.bool true, h') ∧ h.nx ≤ h'.nx ∧ ∀ j, j < h.nx → h'.t.get j = h.t.get j := by
  obtain ⟨fv1, w1, F1, rfl, r1, l1, c1⟩ := p1
  obtain ⟨fv2, w2, F2, rfl, r2, l2, c2⟩ := p2
  have hty := e.ty
  have hpl := e.pl
  have hil := strs_len S
  have z2 : h.nx ≠ h.nx + 1 := by omega
  have z1 : h.nx + 1 ≠ h.nx := by omega
  obtain ⟨h0, hh0⟩ : ∃ h0 : H, h0 = ⟨(h.t.set h.nx (.cells [.int .i64 d, fv1, .sl w1 (strs S)])).set (h.nx + 1) (.cells [.int .i64 d, fv2, .sl w2 (strs S)]), h.nx + 1 + 1⟩ := ⟨_, rfl⟩
  have old0 : ∀ j, j < h.nx → h0.t.get j = h.t.get j := fun j hj => by
    rw [hh0]
    simp only [T.get_set_ite]
    repeat rw [if_neg (by omega)]
  have n0 : h.nx ≤ h0.nx := by rw [hh0]; simp only; omega
  have s : SameR h0 h.nx (h.nx + 1) d fv1 fv2 F1 F2 w1 w2 C S := ⟨by rw [hh0]; simp [T.get_set_ite, z2], by rw [hh0]; simp [T.get_set_ite], r1.mono n0 fun j _ hj => old0 j hj, r2.mono n0 fun j _ hj => old0 j hj, l1, l2, fun i x c hx hc => (c1 i x c hx hc).mono n0 fun j _ hj => old0 j hj, fun i x c hx hc => (c2 i x c hx hc).mono n0 fun j _ hj => old0 j hj⟩
  have hz : intBeq 0 0 = true := rfl
  have hq0 : intBeq d d = true := intBeq_iff.2 rfl
  have hq1 : intBeq ↑S.length ↑S.length = true := intBeq_iff.2 rfl
  have hq2 : intBeq ↑C.length ↑C.length = true := intBeq_iff.2 rfl
  obtain ⟨y, hy⟩ : ∃ y, evL E 10 [.agg [.int .i64 d, fv1, .sl w1 (strs S)], .agg [.int .i64 d, fv2, .sl w2 (strs S)]] h = y := ⟨_, rfl⟩
  rw [hy]
  rw [evL_fn E (e.no 10 (by simp)) (by rw [e.fn]; kernel_rfl) body10 _ _ rfl] at hy
  simp only [codeAt, condAt, sub, Tryz.f10] at hy
  have o1 := r1.one
  have o2 := r2.one
  refine ⟨h0, ?_, n0, old0⟩
  have fin : ∀ tm0 x0, cdL E 10 96 (.loop b10_0) tm0 h0 = x0 → tm0.get 2 = some (.ptr (some (h.nx, 0))) → tm0.get 3 = some (.ptr (some (h.nx + 1, 0))) → tm0.get 5 = some (.int .i64 ↑(0 : Nat)) → ∃ tm', x0 = some (.exit 0, tm', h0) ∧ tm'.get 2 = some (.ptr (some (h.nx, 0))) ∧ tm'.get 3 = some (.ptr (some (h.nx + 1, 0))) := fun tm0 x0 hx g2 g3 g5 => loop10_0 e s hS S 0 hx rfl (Nat.zero_le _) g2 g3 g5
  have fin1 : ∀ tm0 x0, cdL E 10 96 (.loop b10_1) tm0 h0 = x0 → tm0.get 2 = some (.ptr (some (h.nx, 0))) → tm0.get 3 = some (.ptr (some (h.nx + 1, 0))) → tm0.get 6 = some (.int .i64 ↑(0 : Nat)) → ∃ tm', x0 = some (.exit 2, tm', h0) := fun tm0 x0 hx g2 g3 g6 => loop10_1 e s hC hCl C 0 hx rfl (Nat.zero_le _) g2 g3 g6
  have ln1 : (fv1 = .sl .full [] ∧ C.length = 0) ∨ ∃ id, fv1 = .rs id C.length true := by
    rcases r1 with ⟨e1, e2⟩ | ⟨id, e1, _⟩
    · exact .inl ⟨e1, by rw [← l1, e2]; rfl⟩
    · exact .inr ⟨id, by rw [e1, l1]⟩
  have ln2 : (fv2 = .sl .full [] ∧ C.length = 0) ∨ ∃ id, fv2 = .rs id C.length true := by
    rcases r2 with ⟨e1, e2⟩ | ⟨id, e1, _⟩
    · exact .inl ⟨e1, by rw [← l2, e2]; rfl⟩
    · exact .inr ⟨id, by rw [e1, l2]⟩
  have go : ∃ (tm0 : Tm) (x0 : Option (Ex × Tm × H)), cdL E 10 96 (.loop b10_0) tm0 h0 = x0 ∧ tm0.get 2 = some (.ptr (some (h.nx, 0))) ∧ tm0.get 3 = some (.ptr (some (h.nx + 1, 0))) ∧ tm0.get 5 = some (.int .i64 ↑(0 : Nat)) ∧ ∀ tm', x0 = some (.exit 0, tm', h0) → tm'.get 2 = some (.ptr (some (h.nx, 0))) → tm'.get 3 = some (.ptr (some (h.nx + 1, 0))) → ∃ (tm1 : Tm) (x1 : Option (Ex × Tm × H)), cdL E 10 96 (.loop b10_1) tm1 h0 = x1 ∧ tm1.get 2 = some (.ptr (some (h.nx, 0))) ∧ tm1.get 3 = some (.ptr (some (h.nx + 1, 0))) ∧ tm1.get 6 = some (.int .i64 ↑(0 : Nat)) ∧ ∀ tm2, x1 = some (.exit 2, tm2, h0) → y = some (.bool true, h0) := by
    rcases ln1 with ⟨rfl, hc1⟩ | ⟨id1, rfl⟩
    · rcases ln2 with ⟨rfl, hc2⟩ | ⟨id2, rfl⟩
      · simp [EVT, endL, evSeq, evOne, evAct, evOp, opKind, evPure, evRead, evNew, evWrite, evSlice, natOf, optVal, readAt, AV.cells, wantedA, putTm, val, allVals, evBin, evInt, evStr, evAppend, evMin, nilCmp, denseFrom, sizesAre, onesIn, evPlan, recheck, H.new, H.put, fillF, fillAt, allOne, AV.one, setArgs, evRes, resOf, ofVal, ofVal0, isShift, ikBeq, TYC, hty, hpl, hil, hq0, hq1, hq2, z1, z2, hz] at hy
        generalize hx : cdL E 10 96 (.loop b10_0) _ _ = x at hy
        rw [← hh0] at hx
        refine ⟨_, x, hx, by simp [T.get_set_ite], by simp [T.get_set_ite], by simp [T.get_set_ite], fun tm' ex g2 g3 => ?_⟩
        subst ex
        simp [EVT, endL, evSeq, evOne, evAct, evOp, opKind, evPure, evRead, evNew, evWrite, evSlice, natOf, optVal, readAt, AV.cells, wantedA, putTm, val, allVals, evBin, evInt, evStr, evAppend, evMin, nilCmp, denseFrom, sizesAre, onesIn, evPlan, recheck, H.new, H.put, fillF, fillAt, allOne, AV.one, setArgs, evRes, resOf, ofVal, ofVal0, isShift, ikBeq, TYC, hty, hpl, g2, g3] at hy
        generalize hx1 : cdL E 10 96 (.loop b10_1) _ _ = x1 at hy
        refine ⟨_, x1, hx1, by simp [T.get_set_ite, g2], by simp [T.get_set_ite, g3], by simp [T.get_set_ite], fun tm2 ex1 => ?_⟩
        subst ex1
        simp [EVT, endL, evSeq, evOne, evAct, evOp, opKind, evPure, evRead, evNew, evWrite, evSlice, natOf, optVal, readAt, AV.cells, wantedA, putTm, val, allVals, evBin, evInt, evStr, evAppend, evMin, nilCmp, denseFrom, sizesAre, onesIn, evPlan, recheck, H.new, H.put, fillF, fillAt, allOne, AV.one, setArgs, evRes, resOf, ofVal, ofVal0, isShift, ikBeq, TYC, hty, hpl] at hy
        exact hy.symm
      · have hC0 := List.eq_nil_of_length_eq_zero hc1
        subst hC0
        simp only [List.length_nil] at hh0
        simp [EVT, endL, evSeq, evOne, evAct, evOp, opKind, evPure, evRead, evNew, evWrite, evSlice, natOf, optVal, readAt, AV.cells, wantedA, putTm, val, allVals, evBin, evInt, evStr, evAppend, evMin, nilCmp, denseFrom, sizesAre, onesIn, evPlan, recheck, H.new, H.put, fillF, fillAt, allOne, AV.one, setArgs, evRes, resOf, ofVal, ofVal0, isShift, ikBeq, TYC, hty, hpl, hil, hq0, hq1, hq2, z1, z2, hz] at hy
        generalize hx : cdL E 10 96 (.loop b10_0) _ _ = x at hy
        rw [← hh0] at hx
        refine ⟨_, x, hx, by simp [T.get_set_ite], by simp [T.get_set_ite], by simp [T.get_set_ite], fun tm' ex g2 g3 => ?_⟩
        subst ex
        simp [EVT, endL, evSeq, evOne, evAct, evOp, opKind, evPure, evRead, evNew, evWrite, evSlice, natOf, optVal, readAt, AV.cells, wantedA, putTm, val, allVals, evBin, evInt, evStr, evAppend, evMin, nilCmp, denseFrom, sizesAre, onesIn, evPlan, recheck, H.new, H.put, fillF, fillAt, allOne, AV.one, setArgs, evRes, resOf, ofVal, ofVal0, isShift, ikBeq, TYC, hty, hpl, g2, g3] at hy
        generalize hx1 : cdL E 10 96 (.loop b10_1) _ _ = x1 at hy
        refine ⟨_, x1, hx1, by simp [T.get_set_ite, g2], by simp [T.get_set_ite, g3], by simp [T.get_set_ite], fun tm2 ex1 => ?_⟩
        subst ex1
        simp [EVT, endL, evSeq, evOne, evAct, evOp, opKind, evPure, evRead, evNew, evWrite, evSlice, natOf, optVal, readAt, AV.cells, wantedA, putTm, val, allVals, evBin, evInt, evStr, evAppend, evMin, nilCmp, denseFrom, sizesAre, onesIn, evPlan, recheck, H.new, H.put, fillF, fillAt, allOne, AV.one, setArgs, evRes, resOf, ofVal, ofVal0, isShift, ikBeq, TYC, hty, hpl] at hy
        exact hy.symm
    · rcases ln2 with ⟨rfl, hc2⟩ | ⟨id2, rfl⟩
      · have hC0 := List.eq_nil_of_length_eq_zero hc2
        subst hC0
        simp only [List.length_nil] at hh0
        simp [EVT, endL, evSeq, evOne, evAct, evOp, opKind, evPure, evRead, evNew, evWrite, evSlice, natOf, optVal, readAt, AV.cells, wantedA, putTm, val, allVals, evBin, evInt, evStr, evAppend, evMin, nilCmp, denseFrom, sizesAre, onesIn, evPlan, recheck, H.new, H.put, fillF, fillAt, allOne, AV.one, setArgs, evRes, resOf, ofVal, ofVal0, isShift, ikBeq, TYC, hty, hpl, hil, hq0, hq1, hq2, z1, z2, hz] at hy
        generalize hx : cdL E 10 96 (.loop b10_0) _ _ = x at hy
        rw [← hh0] at hx
        refine ⟨_, x, hx, by simp [T.get_set_ite], by simp [T.get_set_ite], by simp [T.get_set_ite], fun tm' ex g2 g3 => ?_⟩
        subst ex
        simp [EVT, endL, evSeq, evOne, evAct, evOp, opKind, evPure, evRead, evNew, evWrite, evSlice, natOf, optVal, readAt, AV.cells, wantedA, putTm, val, allVals, evBin, evInt, evStr, evAppend, evMin, nilCmp, denseFrom, sizesAre, onesIn, evPlan, recheck, H.new, H.put, fillF, fillAt, allOne, AV.one, setArgs, evRes, resOf, ofVal, ofVal0, isShift, ikBeq, TYC, hty, hpl, g2, g3] at hy
        generalize hx1 : cdL E 10 96 (.loop b10_1) _ _ = x1 at hy
        refine ⟨_, x1, hx1, by simp [T.get_set_ite, g2], by simp [T.get_set_ite, g3], by simp [T.get_set_ite], fun tm2 ex1 => ?_⟩
        subst ex1
        simp [EVT, endL, evSeq, evOne, evAct, evOp, opKind, evPure, evRead, evNew, evWrite, evSlice, natOf, optVal, readAt, AV.cells, wantedA, putTm, val, allVals, evBin, evInt, evStr, evAppend, evMin, nilCmp, denseFrom, sizesAre, onesIn, evPlan, recheck, H.new, H.put, fillF, fillAt, allOne, AV.one, setArgs, evRes, resOf, ofVal, ofVal0, isShift, ikBeq, TYC, hty, hpl] at hy
        exact hy.symm
      · simp [EVT, endL, evSeq, evOne, evAct, evOp, opKind, evPure, evRead, evNew, evWrite, evSlice, natOf, optVal, readAt, AV.cells, wantedA, putTm, val, allVals, evBin, evInt, evStr, evAppend, evMin, nilCmp, denseFrom, sizesAre, onesIn, evPlan, recheck, H.new, H.put, fillF, fillAt, allOne, AV.one, setArgs, evRes, resOf, ofVal, ofVal0, isShift, ikBeq, TYC, hty, hpl, hil, hq0, hq1, hq2, z1, z2, hz] at hy
        generalize hx : cdL E 10 96 (.loop b10_0) _ _ = x at hy
        rw [← hh0] at hx
        refine ⟨_, x, hx, by simp [T.get_set_ite], by simp [T.get_set_ite], by simp [T.get_set_ite], fun tm' ex g2 g3 => ?_⟩
        subst ex
        simp [EVT, endL, evSeq, evOne, evAct, evOp, opKind, evPure, evRead, evNew, evWrite, evSlice, natOf, optVal, readAt, AV.cells, wantedA, putTm, val, allVals, evBin, evInt, evStr, evAppend, evMin, nilCmp, denseFrom, sizesAre, onesIn, evPlan, recheck, H.new, H.put, fillF, fillAt, allOne, AV.one, setArgs, evRes, resOf, ofVal, ofVal0, isShift, ikBeq, TYC, hty, hpl, g2, g3] at hy
        generalize hx1 : cdL E 10 96 (.loop b10_1) _ _ = x1 at hy
        refine ⟨_, x1, hx1, by simp [T.get_set_ite, g2], by simp [T.get_set_ite, g3], by simp [T.get_set_ite], fun tm2 ex1 => ?_⟩
        subst ex1
        simp [EVT, endL, evSeq, evOne, evAct, evOp, opKind, evPure, evRead, evNew, evWrite, evSlice, natOf, optVal, readAt, AV.cells, wantedA, putTm, val, allVals, evBin, evInt, evStr, evAppend, evMin, nilCmp, denseFrom, sizesAre, onesIn, evPlan, recheck, H.new, H.put, fillF, fillAt, allOne, AV.one, setArgs, evRes, resOf, ofVal, ofVal0, isShift, ikBeq, TYC, hty, hpl] at hy
        exact hy.symm
  obtain ⟨tm0, x0, k0, g2, g3, g5, nxt⟩ := go
  obtain ⟨tm', ex, u2, u3⟩ := fin tm0 x0 k0 g2 g3 g5
  obtain ⟨tmB, xB, kB, gB2, gB3, gB6, nxtB⟩ := nxt tm' ex u2 u3
  obtain ⟨tmC, exC⟩ := fin1 tmB xB kB gB2 gB3 gB6
  exact nxtB tmC exC
end Go.Proofs.YtogjplcnmibnlaaGreatDoor.Env
