/- Has a type a var, by all that is said: the program's has. -/
import Derived.Test.YtiifjjcoepgobaaYG
set_option autoImplicit false
set_option maxRecDepth 100000
set_option linter.unusedSimpArgs false
set_option linter.unusedVariables false
set_option linter.unusedSectionVars false
namespace Go.Proofs.Ytiifjjcoepgobaa.Env
open Go.Ev

/-! ### Plain -/
def anyF (g : List Int → Ty → Option (Bool × List Int)) : List Int → List Ty → Option (Bool × List Int)
  | seen, [] => some (false, seen)
  | seen, k :: l => match g seen k with
    | none => none
    | some (true, s) => some (true, s)
    | some (false, s) => anyF g s l
def hasF : Nat → Sd → Int → List Int → Ty → Option (Bool × List Int)
  | 0, _, _, _, _ => none
  | f + 1, sd, n, seen, .mk o v ks => bif natsBeq o varS then (match look sd v with
      | none => some (intBeq v n, seen)
      | some u => bif hasI seen v then some (intBeq v n, seen) else hasF f sd n (seen ++ [v]) u)
    else anyF (hasF f sd n) seen ks
theorem anyF_mono {g g' : List Int → Ty → Option (Bool × List Int)} (h : ∀ s t r, g s t = some r → g' s t = some r) : ∀ {l : List Ty} {s : List Int} {r : Bool × List Int}, anyF g s l = some r → anyF g' s l = some r
  | [], s, r, e => e
  | k :: l, s, r, e => by
    simp only [anyF] at e ⊢
    cases hg : g s k with
    | none => rw [hg] at e; simp at e
    | some p =>
      rw [hg] at e
      rw [h _ _ _ hg]
      obtain ⟨b, s'⟩ := p
      cases b with
      | true => exact e
      | false => exact anyF_mono h e
theorem hasF_mono : ∀ {f g : Nat} {sd : Sd} {n : Int} {seen : List Int} {t : Ty} {r : Bool × List Int}, f ≤ g → hasF f sd n seen t = some r → hasF g sd n seen t = some r
  | 0, _, _, _, _, _, _, _, h => by simp [hasF] at h
  | f + 1, 0, _, _, _, _, _, hg, _ => by omega
  | f + 1, g + 1, sd, n, seen, .mk o v ks, r, hg, h => by
    simp only [hasF] at h ⊢
    cases hv : natsBeq o varS with
    | false =>
      rw [hv] at h
      simp only [cond_false] at h ⊢
      exact anyF_mono (fun s t r e => hasF_mono (by omega) e) h
    | true =>
      rw [hv] at h
      simp only [cond_true] at h ⊢
      cases hl : look sd v with
      | none => rw [hl] at h; exact h
      | some u =>
        rw [hl] at h
        simp only at h ⊢
        cases hs : hasI seen v with
        | true => rw [hs] at h; exact h
        | false => rw [hs] at h; exact hasF_mono (by omega) h

/-! ### Memory -/
def esB (l : List Int) : List (AV × AV) := l.map fun n => (.int .i64 n, .bool true)
theorem intBeq_comm (a b : Int) : intBeq a b = intBeq b a := Bool.eq_iff_iff.2 (by rw [intBeq_iff, intBeq_iff]; exact eq_comm)
theorem mapGet_seen (n : Int) : ∀ l : List Int, mapGet (.int .i64 n) (esB l) = some (bif hasI l n then some (.bool true) else none)
  | [] => rfl
  | k :: l => by
    simp only [esB, List.map_cons, mapGet, keyCmp, ikBeq, cond_true]
    have e : hasI (k :: l) n = (intBeq k n || hasI l n) := by simp [hasI]
    rw [e, intBeq_comm k n]
    cases intBeq n k with
    | true => rfl
    | false =>
      have := mapGet_seen n l
      unfold esB at this
      simpa using this
theorem mapPut_seen (n : Int) : ∀ {l : List Int}, hasI l n = false → mapPut (.int .i64 n) (.bool true) (esB l) = some (esB (l ++ [n]))
  | [], _ => rfl
  | k :: l, h => by
    have e : hasI (k :: l) n = (intBeq k n || hasI l n) := by simp [hasI]
    rw [e, Bool.or_eq_false_iff, intBeq_comm k n] at h
    have := mapPut_seen n h.2
    simp only [esB, List.map_cons, mapPut, keyCmp, ikBeq, cond_true, h.1, List.cons_append] at this ⊢
    rw [this]
theorem esB_inj : ∀ {a b : List Int}, esB a = esB b → a = b
  | [], [], _ => rfl
  | [], _ :: _, h => by simp [esB] at h
  | _ :: _, [], h => by simp [esB] at h
  | x :: a, y :: b, h => by
    simp only [esB, List.map_cons, List.cons.injEq, Prod.mk.injEq, AV.int.injEq, true_and, and_true] at h
    rw [h.1, esB_inj h.2]
def R33 (d : Nat) (args : List AV) (h : H) (v : AV) (hk : H) : Prop := ∃ (s m q : Nat) (nx : Int) (sd : Sd) (x : AV) (t : Ty) (n : Int) (seen seen' : List Int) (b : Bool),
  args = [.ptr (some (s, 0)), x, .int .i64 n, .map (some q)] ∧ x.wk 0 t.av ∧ good t ∧ PSub h s m nx sd ∧ (∀ p ∈ sd, good p.2) ∧ h.t.get q = some (.map (esB seen)) ∧ q < h.nx ∧ q ≠ m ∧ hasF d sd n seen t = some (b, seen') ∧ v = .bool b ∧ hk = h.put q (.map (esB seen'))
theorem R33_mono {d e : Nat} (hd : d ≤ e) {args : List AV} {h : H} {v : AV} {hk : H} (r : R33 d args h v hk) : R33 e args h v hk := by
  obtain ⟨s, m, q, nx, sd, x, t, n, seen, seen', b, h1, h2, h3, h4, h5, h6, h7, h8, h9, h10⟩ := r
  exact ⟨s, m, q, nx, sd, x, t, n, seen, seen', b, h1, h2, h3, h4, h5, h6, h7, h8, hasF_mono hd h9, h10⟩
theorem R33_uniq {d e : Nat} {args : List AV} {h : H} {v v' : AV} {k k' : H} (a : R33 d args h v k) (b : R33 e args h v' k') : v = v' ∧ k = k' := by
  obtain ⟨s, m, q, nx, sd, x, t, n, seen, seen', b1, h1, h2, h3, h4, h5, h6, h7, h8, h9, rfl, rfl⟩ := R33_mono (Nat.le_max_left d e) a
  obtain ⟨s', m', q', nx', sd', x', t', n', sn, sn', b1', g1, g2, g3, g4, g5, g6, g7, g8, g9, rfl, rfl⟩ := R33_mono (Nat.le_max_right d e) b
  rw [h1] at g1
  simp at g1
  obtain ⟨rfl, rfl, rfl, rfl⟩ := g1
  obtain ⟨_, _, rfl⟩ := h4.uniq g4
  obtain rfl := wk_av h2 g2
  rw [h6] at g6
  simp at g6
  obtain rfl := esB_inj g6
  rw [h9] at g9
  simp at g9
  obtain ⟨rfl, rfl⟩ := g9
  exact ⟨rfl, rfl⟩
noncomputable abbrev pd33 (d : Nat) := ofRelH (R33 d)

/-! ### The closure, the library's search -/
structure Boxes (h : H) (s m q b4 b6 b7 : Nat) (n : Int) (nx : Int) (sd : Sd) : Prop where
  ps : PSub h s m nx sd
  c4 : h.t.get b4 = some (.cells [.ptr (some (s, 0))])
  c6 : h.t.get b6 = some (.cells [.int .i64 n])
  c7 : h.t.get b7 = some (.cells [.map (some q)])
  l4 : b4 < h.nx
  l6 : b6 < h.nx
  l7 : b7 < h.nx
  lq : q < h.nx
  qm : q ≠ m
theorem Boxes.mono {h h' : H} {s m q b4 b6 b7 : Nat} {n nx : Int} {sd : Sd} (a : Boxes h s m q b4 b6 b7 n nx sd) {seen : List Int} (hq : h.t.get q = some (.map (esB seen))) (o : Only q h h') : Boxes h' s m q b4 b6 b7 n nx sd := by
  have e : ∀ j cs, h.t.get j = some (.cells cs) → j ≠ q := fun j cs hj e => by rw [e, hq] at hj; cases hj
  have f := o.2
  have hn := o.1
  exact ⟨a.ps.mono o.1 (f s a.ps.hs (e _ _ a.ps.cs)) (f m a.ps.hm (Ne.symm a.qm)), by rw [f b4 a.l4 (e _ _ a.c4)]; exact a.c4, by rw [f b6 a.l6 (e _ _ a.c6)]; exact a.c6, by rw [f b7 a.l7 (e _ _ a.c7)]; exact a.c7, Nat.lt_of_lt_of_le a.l4 hn, Nat.lt_of_lt_of_le a.l6 hn, Nat.lt_of_lt_of_le a.l7 hn, Nat.lt_of_lt_of_le a.lq hn, a.qm⟩
def Has33 (E : Env) (d : Nat) : Prop := ∀ (s m q : Nat) (nx : Int) (sd : Sd) (t : Ty) (n : Int) (seen seen' : List Int) (b : Bool) (h : H), good t → PSub h s m nx sd → (∀ p ∈ sd, good p.2) → h.t.get q = some (.map (esB seen)) → q < h.nx → q ≠ m → hasF d sd n seen t = some (b, seen') →
  evL E 33 [.ptr (some (s, 0)), t.av, .int .i64 n, .map (some q)] h = some (.bool b, h.put q (.map (esB seen')))
theorem has33_of {E : Env} {d : Nat} (hp : E.prim 33 = some (pd33 d)) : Has33 E d := fun s m q nx sd t n seen seen' b h h1 h2 h3 h4 h5 h6 h7 => by
  rw [evL_prim E hp]
  have hr : R33 d [.ptr (some (s, 0)), t.av, .int .i64 n, .map (some q)] h (.bool b) (h.put q (.map (esB seen'))) := ⟨s, m, q, nx, sd, t.av, t, n, seen, seen', b, rfl, Ty.av_bare 0 t, h1, h2, h3, h4, h5, h6, h7, rfl, rfl⟩
  exact ofRelH_of hr fun v k hu => R33_uniq hu hr
theorem clo_run {E : Env} (hty : E.ty = env.ty) (hpl : E.plan = env.plan) (hp : E.prim 35 = none) (hfn : E.fns 35 = some Try.f35) {d : Nat} (hc : Has33 E d) {s m q b4 b6 b7 : Nat} {n nx : Int} {sd : Sd} (hsg : ∀ p ∈ sd, good p.2) {h : H} (hb : Boxes h s m q b4 b6 b7 n nx sd) {t : Ty} (hg : good t) {seen seen' : List Int} {b : Bool} (hq : h.t.get q = some (.map (esB seen)))
    (hh : hasF d sd n seen t = some (b, seen')) : ∃ h', evL E 35 [t.av, .ptr (some (b4, 0)), .ptr (some (b6, 0)), .ptr (some (b7, 0))] h = some (.bool b, h') ∧ Only q h h' ∧ h'.t.get q = some (.map (esB seen')) := by
  have c4 := hb.c4
  have c6 := hb.c6
  have c7 := hb.c7
  have l4 := hb.l4
  have l6 := hb.l6
  have l7 := hb.l7
  have lq := hb.lq
  have n4 : b4 ≠ h.nx := by omega
  have n6 : b6 ≠ h.nx := by omega
  have n7 : b7 ≠ h.nx := by omega
  have nq : q ≠ h.nx := by omega
  have hcall := hc s m q nx sd t n seen seen' b ⟨h.t.set h.nx (.cells t.av.cells), h.nx + 1⟩ hg (hb.ps.mono (by simp) (by simp only [T.get_set_ite]; rw [if_neg (by have := hb.ps.hs; omega)]) (by simp only [T.get_set_ite]; rw [if_neg (by have := hb.ps.hm; omega)])) hsg (by simp [T.get_set_ite, nq, hq]) (by simp; omega) hb.qm hh
  obtain ⟨a0, a1, a2, ha⟩ := av_cells t
  rw [ha] at hcall ⊢
  simp only [AV.cells] at hcall
  rw [evL_fn E (fn := Try.f35) hp hfn rfl _ _ rfl]
  simp only [Try.f35]
  simp [cdL_seq, cdL_region, cdL_drawn, cdL_cond, cdL_block, cdL_skip, cdL_label, cdL_exit, cdL_ret, endL, evSeq, evOne, evAct, evOp, opKind, evPure, evRead, evNew, evWrite, evSlice, natOf, optVal, readAt, AV.cells, wantedA, putTm, val, allVals, evBin, evInt, evStr, evAppend, denseFrom, sizesAre, onesIn, evPlan, recheck, AV.beq_refl, H.new, H.put, fillF, fillAt, allOne, AV.one, setArgs, evRes, resOf, ofVal, ofVal0, blt_dec, ble_dec, beq_dec, T.get_set_ite, T.get_e, isShift, ikBeq, ty_0, ty_1, ty_2, ty_3, ty_4, ty_5, ty_6, ty_7, ty_8, ty_9, ty_10, ty_11, ty_12, ty_13, ty_14, ty_15, ty_16, ty_17, ty_18, ty_19, ty_20, ty_21, ty_22, ty_23, ty_24, ty_25, ty_26, ty_27, ty_28, ty_29, ty_30, ty_31, ty_32, ty_33, ty_34, ty_35, ty_36, ty_37, ty_38, ty_39, ty_40, ty_41, ty_42, ty_43, ty_44, ty_45, ty_46, ty_47, ty_48, ty_49, ty_50, ty_51, ty_52, ty_53, ty_54, ty_55, ty_56, ty_57, ty_58, ty_59, ty_60, ty_61, ty_62, ty_63, ty_64, ty_65, ty_66, ty_67, ty_68, ty_69, ty_70, ty_71, ty_72, ty_73, ty_74, ty_75, ty_76, ty_77, ty_78, pl_3_7, pl_3_12, pl_3_14, pl_3_15, pl_3_17, pl_4_12, pl_5_7, pl_6_16, pl_6_21, pl_7_3, pl_7_7, pl_8_5, pl_12_3, pl_13_1, pl_13_11, pl_15_6, pl_16_8, pl_17_4, pl_19_5, pl_19_12, pl_24_5, pl_24_12, pl_26_1, pl_27_2, pl_28_3, pl_30_3, pl_33_2, hty, hpl, c4, c6, c7, n4, n6, n7, hcall]
  refine ⟨by simp, fun j hj hjq => ?_⟩
  simp only [T.get_set_ite]
  rw [if_neg hjq, if_neg (by omega)]
noncomputable def b36_0 : Code := loopOf Try.f36 0
theorem body36 : Try.f36.body = some (.seq (codeAt Try.f36 [0]) (.seq (.seq (codeAt Try.f36 [1, 0, 0]) (.block 0 (.loop b36_0))) (codeAt Try.f36 [1, 1]))) := rfl
theorem loop36 {E : Env} (hty : E.ty = env.ty) (hpl : E.plan = env.plan) (hp : E.prim 35 = none) (hfn : E.fns 35 = some Try.f35) {d : Nat} (hc : Has33 E d) {s m q b4 b6 b7 : Nat} {n nx : Int} {sd : Sd} (hsg : ∀ p ∈ sd, good p.2) {ks : List Ty} (hl : ks.length ≤ 1000000) (hf : goods ks) {b : Bool} {seen' : List Int} :
    ∀ (l : List Ty) (i : Nat) (seen : List Int) {tm : Tm} {h : H} {x : Option (Ex × Tm × H)}, cdL E 36 19 (.loop b36_0) tm h = x → l = ks.drop i → i ≤ ks.length → Boxes h s m q b4 b6 b7 n nx sd → h.t.get q = some (.map (esB seen)) → anyF (hasF d sd n) seen l = some (b, seen') →
    tm.get 0 = some (.sl .no (Ty.avs ks)) → tm.get 1 = some (.fn 35 [] [.ptr (some (b4, 0)), .ptr (some (b6, 0)), .ptr (some (b7, 0))]) → tm.get 7 = some (.int .i64 ↑ks.length) → tm.get 8 = some (.int .i64 ↑i) →
    ∃ tm' h', x = some (bif b then .ret else .exit 0, tm', h') ∧ Only q h h' ∧ h'.t.get q = some (.map (esB seen')) ∧ (b = true → ∃ j : Nat, tm'.get 4 = some (.int .i64 ↑j))
  | [], i, seen, tm, h, x, hx, hd, hi, hb, hq, hh, h0, h1, h7, h8 => by
    have hlen := dnil hd hi
    simp only [anyF, Option.some.injEq, Prod.mk.injEq] at hh
    obtain ⟨rfl, rfl⟩ := hh
    obtain ⟨R, hR, hx⟩ := loop_step hx
    simp [b36_0, loopOf, Try.f36, loops, cdL_seq, cdL_region, cdL_drawn, cdL_cond, cdL_block, cdL_skip, cdL_label, cdL_exit, cdL_ret, endL, evSeq, evOne, evAct, evOp, opKind, evPure, evRead, evNew, evWrite, evSlice, natOf, optVal, readAt, AV.cells, wantedA, putTm, val, allVals, evBin, evInt, evStr, evAppend, denseFrom, sizesAre, onesIn, evPlan, recheck, AV.beq_refl, H.new, H.put, fillF, fillAt, allOne, AV.one, setArgs, evRes, resOf, ofVal, ofVal0, blt_dec, ble_dec, beq_dec, T.get_set_ite, T.get_e, isShift, ikBeq, ty_0, ty_1, ty_2, ty_3, ty_4, ty_5, ty_6, ty_7, ty_8, ty_9, ty_10, ty_11, ty_12, ty_13, ty_14, ty_15, ty_16, ty_17, ty_18, ty_19, ty_20, ty_21, ty_22, ty_23, ty_24, ty_25, ty_26, ty_27, ty_28, ty_29, ty_30, ty_31, ty_32, ty_33, ty_34, ty_35, ty_36, ty_37, ty_38, ty_39, ty_40, ty_41, ty_42, ty_43, ty_44, ty_45, ty_46, ty_47, ty_48, ty_49, ty_50, ty_51, ty_52, ty_53, ty_54, ty_55, ty_56, ty_57, ty_58, ty_59, ty_60, ty_61, ty_62, ty_63, ty_64, ty_65, ty_66, ty_67, ty_68, ty_69, ty_70, ty_71, ty_72, ty_73, ty_74, ty_75, ty_76, ty_77, ty_78, pl_3_7, pl_3_12, pl_3_14, pl_3_15, pl_3_17, pl_4_12, pl_5_7, pl_6_16, pl_6_21, pl_7_3, pl_7_7, pl_8_5, pl_12_3, pl_13_1, pl_13_11, pl_15_6, pl_16_8, pl_17_4, pl_19_5, pl_19_12, pl_24_5, pl_24_12, pl_26_1, pl_27_2, pl_28_3, pl_30_3, pl_33_2, lp, hty, hpl, h0, h1, h7, h8, hlen, ltI_f] at hx
    exact ⟨_, h, by rw [← hx]; rfl, ⟨Nat.le_refl _, fun _ _ _ => rfl⟩, hq, by simp⟩
  | t :: l, i, seen, tm, h, x, hx, hdr, hi, hb, hq, hh, h0, h1, h7, h8 => by
    obtain ⟨hlt, hct, hd'⟩ := dcons hdr
    have hat := avs_get hct
    have htm := List.mem_of_getElem? hct
    obtain ⟨R, hR, hx⟩ := loop_step hx
    have hlt' := ltI_t hlt
    have hw := wr_succ (i := i) (by omega)
    simp only [anyF] at hh
    cases hg : hasF d sd n seen t with
    | none => rw [hg] at hh; simp at hh
    | some r =>
      obtain ⟨b1, s1⟩ := r
      rw [hg] at hh
      obtain ⟨h1', e1, o1, q1⟩ := clo_run hty hpl hp hfn hc hsg hb (goods_mem.1 hf t htm) hq hg
      obtain ⟨a0, a1, a2, ha⟩ := av_cells t
      rw [ha] at hat e1
      cases b1 with
      | true =>
        simp only [Option.some.injEq, Prod.mk.injEq] at hh
        obtain ⟨rfl, rfl⟩ := hh
        simp [b36_0, loopOf, Try.f36, loops, cdL_seq, cdL_region, cdL_drawn, cdL_cond, cdL_block, cdL_skip, cdL_label, cdL_exit, cdL_ret, endL, evSeq, evOne, evAct, evOp, opKind, evPure, evRead, evNew, evWrite, evSlice, natOf, optVal, readAt, AV.cells, wantedA, putTm, val, allVals, evBin, evInt, evStr, evAppend, denseFrom, sizesAre, onesIn, evPlan, recheck, AV.beq_refl, H.new, H.put, fillF, fillAt, allOne, AV.one, setArgs, evRes, resOf, ofVal, ofVal0, blt_dec, ble_dec, beq_dec, T.get_set_ite, T.get_e, isShift, ikBeq, ty_0, ty_1, ty_2, ty_3, ty_4, ty_5, ty_6, ty_7, ty_8, ty_9, ty_10, ty_11, ty_12, ty_13, ty_14, ty_15, ty_16, ty_17, ty_18, ty_19, ty_20, ty_21, ty_22, ty_23, ty_24, ty_25, ty_26, ty_27, ty_28, ty_29, ty_30, ty_31, ty_32, ty_33, ty_34, ty_35, ty_36, ty_37, ty_38, ty_39, ty_40, ty_41, ty_42, ty_43, ty_44, ty_45, ty_46, ty_47, ty_48, ty_49, ty_50, ty_51, ty_52, ty_53, ty_54, ty_55, ty_56, ty_57, ty_58, ty_59, ty_60, ty_61, ty_62, ty_63, ty_64, ty_65, ty_66, ty_67, ty_68, ty_69, ty_70, ty_71, ty_72, ty_73, ty_74, ty_75, ty_76, ty_77, ty_78, pl_3_7, pl_3_12, pl_3_14, pl_3_15, pl_3_17, pl_4_12, pl_5_7, pl_6_16, pl_6_21, pl_7_3, pl_7_7, pl_8_5, pl_12_3, pl_13_1, pl_13_11, pl_15_6, pl_16_8, pl_17_4, pl_19_5, pl_19_12, pl_24_5, pl_24_12, pl_26_1, pl_27_2, pl_28_3, pl_30_3, pl_33_2, lp, hty, hpl, h0, h1, h7, h8, hlt', hat, hw, e1] at hx
        exact ⟨_, h1', by rw [← hx]; rfl, o1, q1, fun _ => ⟨i, by simp [T.get_set_ite]⟩⟩
      | false =>
        simp [b36_0, loopOf, Try.f36, loops, cdL_seq, cdL_region, cdL_drawn, cdL_cond, cdL_block, cdL_skip, cdL_label, cdL_exit, cdL_ret, endL, evSeq, evOne, evAct, evOp, opKind, evPure, evRead, evNew, evWrite, evSlice, natOf, optVal, readAt, AV.cells, wantedA, putTm, val, allVals, evBin, evInt, evStr, evAppend, denseFrom, sizesAre, onesIn, evPlan, recheck, AV.beq_refl, H.new, H.put, fillF, fillAt, allOne, AV.one, setArgs, evRes, resOf, ofVal, ofVal0, blt_dec, ble_dec, beq_dec, T.get_set_ite, T.get_e, isShift, ikBeq, ty_0, ty_1, ty_2, ty_3, ty_4, ty_5, ty_6, ty_7, ty_8, ty_9, ty_10, ty_11, ty_12, ty_13, ty_14, ty_15, ty_16, ty_17, ty_18, ty_19, ty_20, ty_21, ty_22, ty_23, ty_24, ty_25, ty_26, ty_27, ty_28, ty_29, ty_30, ty_31, ty_32, ty_33, ty_34, ty_35, ty_36, ty_37, ty_38, ty_39, ty_40, ty_41, ty_42, ty_43, ty_44, ty_45, ty_46, ty_47, ty_48, ty_49, ty_50, ty_51, ty_52, ty_53, ty_54, ty_55, ty_56, ty_57, ty_58, ty_59, ty_60, ty_61, ty_62, ty_63, ty_64, ty_65, ty_66, ty_67, ty_68, ty_69, ty_70, ty_71, ty_72, ty_73, ty_74, ty_75, ty_76, ty_77, ty_78, pl_3_7, pl_3_12, pl_3_14, pl_3_15, pl_3_17, pl_4_12, pl_5_7, pl_6_16, pl_6_21, pl_7_3, pl_7_7, pl_8_5, pl_12_3, pl_13_1, pl_13_11, pl_15_6, pl_16_8, pl_17_4, pl_19_5, pl_19_12, pl_24_5, pl_24_12, pl_26_1, pl_27_2, pl_28_3, pl_30_3, pl_33_2, lp, hty, hpl, h0, h1, h7, h8, hlt', hat, hw, e1] at hx
        rw [hR] at hx
        obtain ⟨tm', h', g1, g2, g3, g4⟩ := loop36 hty hpl hp hfn hc hsg hl hf l (i + 1) s1 hx hd' hlt (hb.mono hq o1) q1 hh (by simp [T.get_set_ite, h0]) (by simp [T.get_set_ite, h1]) (by simp [T.get_set_ite, h7]) (by simp [T.get_set_ite])
        exact ⟨tm', h', g1, o1.trans g2, g3, g4⟩
theorem any_run {E : Env} (hty : E.ty = env.ty) (hpl : E.plan = env.plan) (hp : E.prim 35 = none) (hfn : E.fns 35 = some Try.f35) (hp36 : E.prim 36 = none) (hfn36 : E.fns 36 = some Try.f36) (hp34 : E.prim 34 = none) (hfn34 : E.fns 34 = some Try.f34)
    {d : Nat} (hc : Has33 E d) {s m q b4 b6 b7 : Nat} {n nx : Int} {sd : Sd} (hsg : ∀ p ∈ sd, good p.2) {ks : List Ty} (hl : ks.length ≤ 1000000) (hf : goods ks) {b : Bool} {seen seen' : List Int} {h : H} (hb : Boxes h s m q b4 b6 b7 n nx sd) (hq : h.t.get q = some (.map (esB seen))) (hh : anyF (hasF d sd n) seen ks = some (b, seen')) :
    ∃ h', evL E 34 [.sl .no (Ty.avs ks), .fn 35 [] [.ptr (some (b4, 0)), .ptr (some (b6, 0)), .ptr (some (b7, 0))]] h = some (.bool b, h') ∧ Only q h h' ∧ h'.t.get q = some (.map (esB seen')) := by
  have e36 : ∃ (v : Int) (h' : H), evL E 36 [.sl .no (Ty.avs ks), .fn 35 [] [.ptr (some (b4, 0)), .ptr (some (b6, 0)), .ptr (some (b7, 0))]] h = some (.int .i64 v, h') ∧ ltI v 0 = !b ∧ Only q h h' ∧ h'.t.get q = some (.map (esB seen')) := by
    rw [evL_fn E hp36 hfn36 body36 _ _ rfl]
    simp only [codeAt, sub, Try.f36]
    have hlen := avs_len ks
    simp [cdL_seq, cdL_region, cdL_drawn, cdL_cond, cdL_block, cdL_skip, cdL_label, cdL_exit, cdL_ret, endL, evSeq, evOne, evAct, evOp, opKind, evPure, evRead, evNew, evWrite, evSlice, natOf, optVal, readAt, AV.cells, wantedA, putTm, val, allVals, evBin, evInt, evStr, evAppend, denseFrom, sizesAre, onesIn, evPlan, recheck, AV.beq_refl, H.new, H.put, fillF, fillAt, allOne, AV.one, setArgs, evRes, resOf, ofVal, ofVal0, blt_dec, ble_dec, beq_dec, T.get_set_ite, T.get_e, isShift, ikBeq, ty_0, ty_1, ty_2, ty_3, ty_4, ty_5, ty_6, ty_7, ty_8, ty_9, ty_10, ty_11, ty_12, ty_13, ty_14, ty_15, ty_16, ty_17, ty_18, ty_19, ty_20, ty_21, ty_22, ty_23, ty_24, ty_25, ty_26, ty_27, ty_28, ty_29, ty_30, ty_31, ty_32, ty_33, ty_34, ty_35, ty_36, ty_37, ty_38, ty_39, ty_40, ty_41, ty_42, ty_43, ty_44, ty_45, ty_46, ty_47, ty_48, ty_49, ty_50, ty_51, ty_52, ty_53, ty_54, ty_55, ty_56, ty_57, ty_58, ty_59, ty_60, ty_61, ty_62, ty_63, ty_64, ty_65, ty_66, ty_67, ty_68, ty_69, ty_70, ty_71, ty_72, ty_73, ty_74, ty_75, ty_76, ty_77, ty_78, pl_3_7, pl_3_12, pl_3_14, pl_3_15, pl_3_17, pl_4_12, pl_5_7, pl_6_16, pl_6_21, pl_7_3, pl_7_7, pl_8_5, pl_12_3, pl_13_1, pl_13_11, pl_15_6, pl_16_8, pl_17_4, pl_19_5, pl_19_12, pl_24_5, pl_24_12, pl_26_1, pl_27_2, pl_28_3, pl_30_3, pl_33_2, hty, hpl, hlen]
    generalize hx : cdL E 36 19 (.loop b36_0) _ _ = x
    obtain ⟨tm', h', rfl, g2, g3, g4⟩ := loop36 hty hpl hp hfn hc hsg hl hf (b := b) ks 0 seen hx rfl (Nat.zero_le _) hb hq hh (by simp [T.get_set_ite]) (by simp [T.get_set_ite]) (by simp [T.get_set_ite]) (by simp [T.get_set_ite])
    cases b with
    | true =>
      obtain ⟨j, hj⟩ := g4 rfl
      simp [cdL_seq, cdL_region, cdL_drawn, cdL_cond, cdL_block, cdL_skip, cdL_label, cdL_exit, cdL_ret, endL, evSeq, evOne, evAct, evOp, opKind, evPure, evRead, evNew, evWrite, evSlice, natOf, optVal, readAt, AV.cells, wantedA, putTm, val, allVals, evBin, evInt, evStr, evAppend, denseFrom, sizesAre, onesIn, evPlan, recheck, AV.beq_refl, H.new, H.put, fillF, fillAt, allOne, AV.one, setArgs, evRes, resOf, ofVal, ofVal0, blt_dec, ble_dec, beq_dec, T.get_set_ite, T.get_e, isShift, ikBeq, ty_0, ty_1, ty_2, ty_3, ty_4, ty_5, ty_6, ty_7, ty_8, ty_9, ty_10, ty_11, ty_12, ty_13, ty_14, ty_15, ty_16, ty_17, ty_18, ty_19, ty_20, ty_21, ty_22, ty_23, ty_24, ty_25, ty_26, ty_27, ty_28, ty_29, ty_30, ty_31, ty_32, ty_33, ty_34, ty_35, ty_36, ty_37, ty_38, ty_39, ty_40, ty_41, ty_42, ty_43, ty_44, ty_45, ty_46, ty_47, ty_48, ty_49, ty_50, ty_51, ty_52, ty_53, ty_54, ty_55, ty_56, ty_57, ty_58, ty_59, ty_60, ty_61, ty_62, ty_63, ty_64, ty_65, ty_66, ty_67, ty_68, ty_69, ty_70, ty_71, ty_72, ty_73, ty_74, ty_75, ty_76, ty_77, ty_78, pl_3_7, pl_3_12, pl_3_14, pl_3_15, pl_3_17, pl_4_12, pl_5_7, pl_6_16, pl_6_21, pl_7_3, pl_7_7, pl_8_5, pl_12_3, pl_13_1, pl_13_11, pl_15_6, pl_16_8, pl_17_4, pl_19_5, pl_19_12, pl_24_5, pl_24_12, pl_26_1, pl_27_2, pl_28_3, pl_30_3, pl_33_2, hty, hpl, hj]
      exact ⟨_, _, ⟨rfl, rfl⟩, ltI_f (a := j) (b := 0) (Nat.zero_le _), g2, g3⟩
    | false =>
      simp [cdL_seq, cdL_region, cdL_drawn, cdL_cond, cdL_block, cdL_skip, cdL_label, cdL_exit, cdL_ret, endL, evSeq, evOne, evAct, evOp, opKind, evPure, evRead, evNew, evWrite, evSlice, natOf, optVal, readAt, AV.cells, wantedA, putTm, val, allVals, evBin, evInt, evStr, evAppend, denseFrom, sizesAre, onesIn, evPlan, recheck, AV.beq_refl, H.new, H.put, fillF, fillAt, allOne, AV.one, setArgs, evRes, resOf, ofVal, ofVal0, blt_dec, ble_dec, beq_dec, T.get_set_ite, T.get_e, isShift, ikBeq, ty_0, ty_1, ty_2, ty_3, ty_4, ty_5, ty_6, ty_7, ty_8, ty_9, ty_10, ty_11, ty_12, ty_13, ty_14, ty_15, ty_16, ty_17, ty_18, ty_19, ty_20, ty_21, ty_22, ty_23, ty_24, ty_25, ty_26, ty_27, ty_28, ty_29, ty_30, ty_31, ty_32, ty_33, ty_34, ty_35, ty_36, ty_37, ty_38, ty_39, ty_40, ty_41, ty_42, ty_43, ty_44, ty_45, ty_46, ty_47, ty_48, ty_49, ty_50, ty_51, ty_52, ty_53, ty_54, ty_55, ty_56, ty_57, ty_58, ty_59, ty_60, ty_61, ty_62, ty_63, ty_64, ty_65, ty_66, ty_67, ty_68, ty_69, ty_70, ty_71, ty_72, ty_73, ty_74, ty_75, ty_76, ty_77, ty_78, pl_3_7, pl_3_12, pl_3_14, pl_3_15, pl_3_17, pl_4_12, pl_5_7, pl_6_16, pl_6_21, pl_7_3, pl_7_7, pl_8_5, pl_12_3, pl_13_1, pl_13_11, pl_15_6, pl_16_8, pl_17_4, pl_19_5, pl_19_12, pl_24_5, pl_24_12, pl_26_1, pl_27_2, pl_28_3, pl_30_3, pl_33_2, hty, hpl]
      exact ⟨_, _, ⟨rfl, rfl⟩, rfl, g2, g3⟩
  obtain ⟨v, h', e, hv, o, q1⟩ := e36
  rw [evL_fn E (fn := Try.f34) hp34 hfn34 rfl _ _ rfl]
  simp only [Try.f34]
  simp [cdL_seq, cdL_region, cdL_drawn, cdL_cond, cdL_block, cdL_skip, cdL_label, cdL_exit, cdL_ret, endL, evSeq, evOne, evAct, evOp, opKind, evPure, evRead, evNew, evWrite, evSlice, natOf, optVal, readAt, AV.cells, wantedA, putTm, val, allVals, evBin, evInt, evStr, evAppend, denseFrom, sizesAre, onesIn, evPlan, recheck, AV.beq_refl, H.new, H.put, fillF, fillAt, allOne, AV.one, setArgs, evRes, resOf, ofVal, ofVal0, blt_dec, ble_dec, beq_dec, T.get_set_ite, T.get_e, isShift, ikBeq, ty_0, ty_1, ty_2, ty_3, ty_4, ty_5, ty_6, ty_7, ty_8, ty_9, ty_10, ty_11, ty_12, ty_13, ty_14, ty_15, ty_16, ty_17, ty_18, ty_19, ty_20, ty_21, ty_22, ty_23, ty_24, ty_25, ty_26, ty_27, ty_28, ty_29, ty_30, ty_31, ty_32, ty_33, ty_34, ty_35, ty_36, ty_37, ty_38, ty_39, ty_40, ty_41, ty_42, ty_43, ty_44, ty_45, ty_46, ty_47, ty_48, ty_49, ty_50, ty_51, ty_52, ty_53, ty_54, ty_55, ty_56, ty_57, ty_58, ty_59, ty_60, ty_61, ty_62, ty_63, ty_64, ty_65, ty_66, ty_67, ty_68, ty_69, ty_70, ty_71, ty_72, ty_73, ty_74, ty_75, ty_76, ty_77, ty_78, pl_3_7, pl_3_12, pl_3_14, pl_3_15, pl_3_17, pl_4_12, pl_5_7, pl_6_16, pl_6_21, pl_7_3, pl_7_7, pl_8_5, pl_12_3, pl_13_1, pl_13_11, pl_15_6, pl_16_8, pl_17_4, pl_19_5, pl_19_12, pl_24_5, pl_24_12, pl_26_1, pl_27_2, pl_28_3, pl_30_3, pl_33_2, hty, hpl, e, hv]
  exact ⟨o, q1⟩
end Go.Proofs.Ytiifjjcoepgobaa.Env
