/- The program's Free: its loops. -/
import Derived.Test.YtogjplcnmibnlaaGreatDoorCTF
import Derived.Test.YtogjplcnmibnlaaGreatDoorEwL
import Derived.Sort.EncStr
import Derived.Test.YtogjplcnmibnlaaGreatDoorEvV
import Derived.Test.YtogjplcnmibnlaaGreatDoorCFacts
set_option autoImplicit false
set_option maxRecDepth 100000
set_option linter.unusedSimpArgs false
set_option linter.unusedVariables false
set_option linter.unusedSectionVars false
namespace Go.Proofs.YtogjplcnmibnlaaGreatDoor.Tr
open Go.Proofs.YtogjplcnmibnlaaGreatDoor.Env Go.Ev Go.Ev.Nd

def toB (s : List Nat) : List UInt8 := s.map UInt8.ofNat
def ofB (b : List UInt8) : List Nat := b.map (·.toNat)
abbrev sortB (l : List (List UInt8)) : List (List UInt8) := l.mergeSort fun x y => decide (x ≤ y)
def sortS (L : List Str) : List Str := (Lib.compact (sortB (L.map fun t => toB t.s))).map fun b => ⟨ofB b⟩
def notB (B F : List Str) : List Str := F.filter fun x => !hasS B x.s
mutual
def freeT : Nd → List Str
  | .mk o p q n a ks => bif natsBeq o varS then [⟨p⟩] else sortS (freeTL o p q 0 ks)
def freeTL (o p q : List Nat) (i : Nat) : List Nd → List Str
  | [] => []
  | t :: l => notB (bindT o p q ↑i) (freeT t) ++ freeTL o p q (i + 1) l
end
theorem notB_len (B F : List Str) : (notB B F).length ≤ F.length := List.length_filter_le ..
theorem sortS_len (L : List Str) : (sortS L).length ≤ L.length := by
  have h1 := Lib.compact_length_le (sortB (L.map fun t => toB t.s))
  have h2 : (sortB (L.map fun t => toB t.s)).length = (L.map fun t => toB t.s).length := List.length_mergeSort _
  simp only [List.length_map] at h2
  simp only [sortS, List.length_map]
  omega
mutual
theorem freeT_len : ∀ t : Nd, (freeT t).length ≤ t.size
  | .mk o p q n a ks => by
    simp only [freeT, Nd.size]
    cases natsBeq o varS with
    | true => simp
    | false =>
      simp only [cond_false]
      have h1 := sortS_len (freeTL o p q 0 ks)
      have h2 := freeTL_len o p q 0 ks
      omega
theorem freeTL_len (o p q : List Nat) (i : Nat) : ∀ l : List Nd, (freeTL o p q i l).length ≤ sizes l
  | [] => Nat.le_refl _
  | t :: l => by
    simp only [freeTL, sizes, List.length_append]
    have h1 := notB_len (bindT o p q ↑i) (freeT t)
    have h2 := freeT_len t
    have h3 := freeTL_len o p q (i + 1) l
    omega
end
noncomputable def b15_0 : Code := loopOf Tryz.f21 0
noncomputable def b15_1 : Code := loopOf Tryz.f21 1
theorem lb15_0 : b15_0 = (.seq (codeAt Tryz.f21 [1, 1, 1, 0, 1, 0, 0, 0]) (.seq (codeAt Tryz.f21 [1, 1, 1, 0, 1, 0, 0, 1, 0]) (.seq (.block 1 (.seq (codeAt Tryz.f21 [1, 1, 1, 0, 1, 0, 0, 1, 1, 0, 0, 0]) (.seq (codeAt Tryz.f21 [1, 1, 1, 0, 1, 0, 0, 1, 1, 0, 0, 1, 0]) (.seq (codeAt Tryz.f21 [1, 1, 1, 0, 1, 0, 0, 1, 1, 0, 0, 1, 1, 0]) (.block 2 (.loop b15_1)))))) (codeAt Tryz.f21 [1, 1, 1, 0, 1, 0, 0, 1, 1, 1])))) := rfl
theorem loop15_1 {E : Env} (hty : E.ty = env.ty) (hpl : E.plan = env.plan) (h27 : E.prim 18 = some pHasS) {B F : List Str} (hF : F.length ≤ 1000000) (hB : B.length ≤ 9223372036854775807) :
    ∀ (l : List Str) (j : Nat) (w : Own) (out : List Str) {tm : Tm} {h : H} {x : Option (Ex × Tm × H)}, cdL E 21 47 (.loop b15_1) tm h = x → l = F.drop j → j ≤ F.length → out.length + l.length ≤ 1000000 → RowE 9 1 h w (strs out) →
    tm.get 3 = some (.sl w (strs out)) → tm.get 6 = some (.sl .no (strs B)) → tm.get 27 = some (.sl .no (strs F)) → tm.get 28 = some (.int .i64 ↑F.length) → tm.get 29 = some (.int .i64 ↑j) →
    ∃ tm' h' w', x = some (.exit 2, tm', h') ∧ tm'.get 3 = some (.sl w' (strs (out ++ notB B l))) ∧ RowE 9 1 h' w' (strs (out ++ notB B l)) ∧ (∀ k, k < 27 → k ≠ 3 → k ≠ 8 → tm'.get k = tm.get k) ∧ h.nx ≤ h'.nx ∧ (∀ j, j < h.nx → w ≠ .ch j → h'.t.get j = h.t.get j) ∧ (∀ j, w' = .ch j → w = .ch j ∨ h.nx ≤ j)
  | [], j, w, out, tm, h, x, hx, hd, hj, hlen, hr, g3, g6, g27, g28, g29 => by
    have hl := dnil hd hj
    obtain ⟨R, hR, hx⟩ := loop_step hx
    simp [b15_1, loopOf, Tryz.f21, loops, EVT, endL, evSeq, evOne, evAct, evOp, opKind, evPure, evRead, evNew, evWrite, evSlice, natOf, optVal, readAt, AV.cells, wantedA, putTm, val, allVals, evBin, evInt, evStr, evAppend, evMin, nilCmp, denseFrom, sizesAre, onesIn, evPlan, recheck, H.new, H.put, fillF, fillAt, allOne, AV.one, setArgs, evRes, resOf, ofVal, ofVal0, isShift, ikBeq, TYC, lp, hty, hpl, g3, g6, g27, g28, g29, hl, ltI_f] at hx
    exact ⟨_, h, w, hx.symm, by simp [T.get_set_ite, g3, notB], by simpa [notB] using hr, fun k h1 h2 h3 => by simp only [T.get_set_ite]; repeat rw [if_neg (by omega)], Nat.le_refl _, fun _ _ _ => rfl, fun j e => .inl e⟩
  | v :: l, j, w, out, tm, h, x, hx, hd, hj, hlen, hr, g3, g6, g27, g28, g29 => by
    obtain ⟨hlt, hc, hd'⟩ := dcons hd
    have hic := strs_get hc
    have hlt' := ltI_t hlt
    have hw := wr_succ (i := j) (by omega)
    simp only [List.length_cons] at hlen
    have k1 := fun h => cHas (E := E) h27 .no B v.s hB h
    obtain ⟨R, hR, hx⟩ := loop_step hx
    cases h1 : hasS B v.s with
    | true =>
      have e : notB B (v :: l) = notB B l := by simp [notB, h1]
      simp [b15_1, loopOf, Tryz.f21, loops, EVT, endL, evSeq, evOne, evAct, evOp, opKind, evPure, evRead, evNew, evWrite, evSlice, natOf, optVal, readAt, AV.cells, wantedA, putTm, val, allVals, evBin, evInt, evStr, evAppend, evMin, nilCmp, denseFrom, sizesAre, onesIn, evPlan, recheck, H.new, H.put, fillF, fillAt, allOne, AV.one, setArgs, evRes, resOf, ofVal, ofVal0, isShift, ikBeq, TYC, lp, hty, hpl, g3, g6, g27, g28, g29, hlt', hic, k1, h1, hw] at hx
      rw [hR] at hx
      rw [e]
      obtain ⟨tm', h', w', q1, q2, q3, q4, q5⟩ := loop15_1 hty hpl h27 (B := B) hF hB l (j + 1) w out hx hd' hlt (by omega) hr (by simp [T.get_set_ite, g3]) (by simp [T.get_set_ite, g6]) (by simp [T.get_set_ite, g27]) (by simp [T.get_set_ite, g28]) (by simp [T.get_set_ite])
      refine ⟨tm', h', w', q1, q2, q3, fun k k1 k2 k3 => ?_, q5⟩
      rw [q4 k k1 k2 k3]
      simp only [T.get_set_ite]
      repeat rw [if_neg (by omega)]
    | false =>
      have e : notB B (v :: l) = v :: notB B l := by simp [notB, h1]
      have so := strs_len out
      obtain ⟨w2, h2, e2, r2, n2, f2⟩ := app_any (e := 9) (sz := 1) (byt := 16) (xs := strs out) (ys := strs [v]) (by omega) (by omega) (strs_sizes out) (strs_sizes [v]) (strs_ones [v]) (by rw [so, strs_len]; simp; omega) hr
      rw [strs_append] at e2 r2
      have zv : strs [v] = [.str v.s] := rfl
      rw [zv] at e2
      have hw2 : ∀ j, w2 = .ch j → w = .ch j ∨ h.nx ≤ j := fun j ej => own_app hr e2 j ej
      simp [b15_1, loopOf, Tryz.f21, loops, EVT, endL, evSeq, evOne, evAct, evOp, opKind, evPure, evRead, evNew, evWrite, evSlice, natOf, optVal, readAt, AV.cells, wantedA, putTm, val, allVals, evBin, evInt, evStr, evAppend, evMin, nilCmp, denseFrom, sizesAre, onesIn, evPlan, recheck, H.new, H.put, fillF, fillAt, allOne, AV.one, setArgs, evRes, resOf, ofVal, ofVal0, isShift, ikBeq, TYC, lp, hty, hpl, g3, g6, g27, g28, g29, hlt', hic, k1, h1, hw, e2, -evAppend] at hx
      rw [hR] at hx
      obtain ⟨tm', h', w', q1, q2, q3, q4, q5, q6, q7⟩ := loop15_1 hty hpl h27 (B := B) hF hB l (j + 1) w2 (out ++ [v]) hx hd' hlt (by simp; omega) r2 (by simp [T.get_set_ite]) (by simp [T.get_set_ite, g6]) (by simp [T.get_set_ite, g27]) (by simp [T.get_set_ite, g28]) (by simp [T.get_set_ite])
      rw [e]
      refine ⟨tm', h', w', q1, by simpa using q2, by simpa using q3, fun k k1 k2 k3 => ?_, by omega, fun j hj hne => ?_, fun j ej => ?_⟩
      · rw [q4 k k1 k2 k3]
        simp only [T.get_set_ite]
        repeat rw [if_neg (by omega)]
      · rw [q6 j (by omega) (fun ew => by
          rcases hw2 j ew with h1 | h1
          · exact hne h1
          · omega), f2 j hj hne]
      · rcases q7 j ej with h1 | h1
        · exact hw2 j h1
        · exact .inr (by omega)
end Go.Proofs.YtogjplcnmibnlaaGreatDoor.Tr
/- Sizes of expressions. -/
namespace Go.Proofs.YtogjplcnmibnlaaGreatDoor.Tr
open Go.Proofs.YtogjplcnmibnlaaGreatDoor.Env Go.Ev Go.Ev.Nd

mutual
def szF : Nd → Int → Int
  | .mk _ _ _ _ _ ks, m => szL ks m 1
def szL : List Nd → Int → Int → Int
  | [], _, k => k
  | t :: l, m, k => bif ltI k m then szL l m (k + szF t (m - k)) else k
end
theorem szF_eq (t : Nd) (m : Int) : szF t m = szL t.kids m 1 := by cases t; rfl
mutual
theorem szF_le : ∀ (t : Nd) (m : Int), 1 ≤ szF t m ∧ (szF t m ≤ m ∨ szF t m = 1)
  | .mk _ _ _ _ _ ks, m => by
    have := szL_le ks m 1 (Int.le_refl _)
    simp only [szF]
    omega
theorem szL_le : ∀ (l : List Nd) (m k : Int), 1 ≤ k → k ≤ szL l m k ∧ (szL l m k ≤ m ∨ szL l m k = k)
  | [], m, k, _ => by simp [szL]
  | t :: l, m, k, hk => by
    simp only [szL]
    cases hb : ltI k m with
    | false => simp
    | true =>
      have hlt : k < m := by rw [ltI_eq] at hb; simpa using hb
      have h1 := szF_le t (m - k)
      have h2 := szL_le l m (k + szF t (m - k)) (by omega)
      simp only [cond_true]
      omega
end
mutual
theorem szF_size : ∀ (t : Nd) (m : Int), szF t m < m → szF t m = ↑t.size
  | .mk _ _ _ _ _ ks, m, h => by
    simp only [szF, Nd.size] at *
    have := szL_size ks m 1 (Int.le_refl _) h
    rw [this]; push_cast; omega
theorem szL_size : ∀ (l : List Nd) (m k : Int), 1 ≤ k → szL l m k < m → szL l m k = k + ↑(sizes l)
  | [], m, k, _, _ => by simp [szL, sizes]
  | t :: l, m, k, hk, h => by
    simp only [szL, sizes] at *
    cases hb : ltI k m with
    | false =>
      rw [hb] at h
      simp only [cond_false] at h
      have : ¬ k < m := by rw [ltI_eq] at hb; simpa using hb
      exact absurd h this
    | true =>
      have hlt : k < m := by rw [ltI_eq] at hb; simpa using hb
      rw [hb] at h
      simp only [cond_true] at h ⊢
      have h1 := szF_le t (m - k)
      have h2 := szL_le l m (k + szF t (m - k)) (by omega)
      have h3 := szF_size t (m - k) (by omega)
      rw [szL_size l m _ (by omega) h, h3]
      push_cast; omega
end
/-- A node's cells, to look at. -/
theorem nd_cells (t : Nd) : ∃ a b c d e f, t.av = .agg [.str a, .str b, .str c, .int .i64 d, .int .i64 e, .sl .no f] := by cases t; exact ⟨_, _, _, _, _, _, rfl⟩

/-! ### the reference's size -/
noncomputable def b19_0 : Code := loopOf Tryz.f16 0
theorem body19 : Tryz.f16.body = some (.seq (codeAt Tryz.f16 [0]) (.seq (codeAt Tryz.f16 [1, 0]) (.seq (.seq (codeAt Tryz.f16 [1, 1, 0, 0]) (.block 0 (.loop b19_0))) (codeAt Tryz.f16 [1, 1, 1])))) := rfl
theorem loop19 {E : Env} (hty : E.ty = env.ty) (hpl : E.plan = env.plan) {c0 c1 c2 c3 c4 : AV} {ks : List Nd} {m : Int} {d : Nat} (hm : 0 ≤ m ∧ m ≤ 4000) (hl : ks.length ≤ 9223372036854775807) (hf : fits ks) (hd : deps ks ≤ d)
    (hc : ∀ t m h, dep t ≤ d → fit t → 0 ≤ m ∧ m ≤ 4000 → evL E 16 [t.av, .int .i64 m] h = some (.int .i64 (szF t m), h)) :
    ∀ (l : List Nd) (i : Nat) (k : Int) {tm : Tm} {h : H} {x : Option (Ex × Tm × H)}, cdL E 16 31 (.loop b19_0) tm h = x → l = ks.drop i → i ≤ ks.length → 1 ≤ k → (k ≤ m ∨ k = 1) →
    tm.get 1 = some (.int .i64 m) → tm.get 2 = some (.ptr (some (0, 0))) → tm.get 5 = some (.int .i64 k) → tm.get 6 = some (.int .i64 ↑i) → h.t.get 0 = some (.cells [c0, c1, c2, c3, c4, .sl .no (avs ks)]) →
    ∃ tm', x = some (.exit 0, tm', h) ∧ tm'.get 5 = some (.int .i64 (szL l m k))
  | [], i, k, tm, h, x, hx, hd, hi, hk, hk2, h1, h2, h5, h6, hz => by
    have hlen := dnil hd hi
    have hl2 := avs_len ks
    rw [hlen] at hl2
    obtain ⟨R, hR, hx⟩ := loop_step hx
    simp [b19_0, loopOf, Tryz.f16, loops, EVT, endL, evSeq, evOne, evAct, evOp, opKind, evPure, evRead, evNew, evWrite, evSlice, natOf, optVal, readAt, AV.cells, wantedA, putTm, val, allVals, evBin, evInt, evStr, evAppend, evMin, nilCmp, denseFrom, sizesAre, onesIn, evPlan, recheck, H.new, H.put, fillF, fillAt, allOne, AV.one, setArgs, evRes, resOf, ofVal, ofVal0, isShift, ikBeq, TYC, lp, hty, hpl, h1, h2, h5, h6, hz, hl2, ltI_f] at hx
    exact ⟨_, by rw [← hx], by simp [T.get_set_ite, h5, szL]⟩
  | t :: l, i, k, tm, h, x, hx, hdr, hi, hk, hk2, h1, h2, h5, h6, hz => by
    obtain ⟨hlt, hct, hd'⟩ := dcons hdr
    have hl2 := avs_len ks
    have hat := avs_get hct
    have htm := List.mem_of_getElem? hct
    obtain ⟨R, hR, hx⟩ := loop_step hx
    have hlt' := ltI_t hlt
    have hw := wr_succ (i := i) (by omega)
    cases hb : ltI k m with
    | false =>
      simp [b19_0, loopOf, Tryz.f16, loops, EVT, endL, evSeq, evOne, evAct, evOp, opKind, evPure, evRead, evNew, evWrite, evSlice, natOf, optVal, readAt, AV.cells, wantedA, putTm, val, allVals, evBin, evInt, evStr, evAppend, evMin, nilCmp, denseFrom, sizesAre, onesIn, evPlan, recheck, H.new, H.put, fillF, fillAt, allOne, AV.one, setArgs, evRes, resOf, ofVal, ofVal0, isShift, ikBeq, TYC, lp, hty, hpl, h1, h2, h5, h6, hz, hl2, hlt', hb] at hx
      exact ⟨_, by rw [← hx], by simp [T.get_set_ite, h5, szL, hb]⟩
    | true =>
      have hkm : k < m := by rw [ltI_eq] at hb; simpa using hb
      have hw1 : wr .i64 (Int.sub m k) = m - k := wrI (by show _ ≤ m - k; omega) (by show m - k < _; omega)
      have hsz := szF_le t (m - k)
      have hw2 : wr .i64 (k + szF t (m - k)) = k + szF t (m - k) := wrI (by omega) (by omega)
      have hcall := fun h => hc t (m - k) h (Nat.le_trans (dep_mem htm) hd) (fits_mem.1 hf t htm) (by omega)
      obtain ⟨a0, a1, a2, a3, a4, a5, ha⟩ := nd_cells t
      rw [ha] at hat hcall
      simp [b19_0, loopOf, Tryz.f16, loops, EVT, endL, evSeq, evOne, evAct, evOp, opKind, evPure, evRead, evNew, evWrite, evSlice, natOf, optVal, readAt, AV.cells, wantedA, putTm, val, allVals, evBin, evInt, evStr, evAppend, evMin, nilCmp, denseFrom, sizesAre, onesIn, evPlan, recheck, H.new, H.put, fillF, fillAt, allOne, AV.one, setArgs, evRes, resOf, ofVal, ofVal0, isShift, ikBeq, TYC, lp, hty, hpl, h1, h2, h5, h6, hz, hl2, hlt', hb, hat, hw1, hcall, hw2, hw] at hx
      rw [hR] at hx
      obtain ⟨tm', g0, g1⟩ := loop19 hty hpl hm hl hf hd hc l (i + 1) (k + szF t (m - k)) hx hd' hlt (by omega) (by omega) (by simp [T.get_set_ite, h1]) (by simp [T.get_set_ite, h2]) (by simp [T.get_set_ite]) (by simp [T.get_set_ite]) hz
      exact ⟨tm', g0, by rw [g1, szL, hb]; rfl⟩
def qsz (d : Nat) (t : Nd) (m : Int) : Prop := dep t ≤ d ∧ fit t ∧ 0 ≤ m ∧ m ≤ 4000
def qsz' (t : Nd) (m : Int) : Prop := fit t ∧ 0 ≤ m ∧ m ≤ 4000
noncomputable abbrev pdSz (d : Nat) := primVal (ofRel (Rel2 (qsz d) szF))
noncomputable abbrev pSz := primVal (ofRel (Rel2 qsz' szF))
theorem pd19_ok : ∀ d, PrimOk Tryz.prog 16 (pdSz d) := prim_rec env_ok (prim_none Tryz.func16 (by kernel_rfl) (by kernel_rfl) (prim_empty fun a b h => by have := dep_pos a; have := h.1; omega)) fun d hE => by
  refine prim2_ok hE (fn := Tryz.f16) (by kernel_rfl) body19 (by kernel_rfl) fun t m hq => ?_
  obtain ⟨hdp, hf, hm⟩ := hq
  have hcall : ∀ t m h, dep t ≤ d → fit t → 0 ≤ m ∧ m ≤ 4000 → evL (addPrim env 16 (pdSz d)) 16 [t.av, .int .i64 m] h = some (.int .i64 (szF t m), h) := fun t m h h1 h2 h3 =>
    prim2_call (a := t) (b := m) (F := szF) (q := qsz d) (by kernel_rfl) (Enc.bare 0 t) (Enc.bare 0 m) ⟨h1, h2, h3⟩ h
  have hty : (addPrim env 16 (pdSz d)).ty = env.ty := rfl
  have hpl : (addPrim env 16 (pdSz d)).plan = env.plan := rfl
  generalize addPrim env 16 (pdSz d) = E at *
  obtain ⟨o, p, q, n, a, ks⟩ := t
  simp only [dep] at hdp
  simp only [fit] at hf
  rw [show (Enc.enc (Nd.mk o p q n a ks) : AV) = (Nd.mk o p q n a ks).av from rfl, show (Enc.enc m : AV) = .int .i64 m from rfl]
  unfold bodyL
  simp only [codeAt, sub, Tryz.f16]
  simp [EVT, endL, evSeq, evOne, evAct, evOp, opKind, evPure, evRead, evNew, evWrite, evSlice, natOf, optVal, readAt, AV.cells, wantedA, putTm, val, allVals, evBin, evInt, evStr, evAppend, evMin, nilCmp, denseFrom, sizesAre, onesIn, evPlan, recheck, H.new, H.put, fillF, fillAt, allOne, AV.one, setArgs, evRes, resOf, ofVal, ofVal0, isShift, ikBeq, TYC, hty, hpl, Nd.av]
  generalize hx : cdL E 16 31 (.loop b19_0) _ _ = x
  obtain ⟨tm', rfl, g5⟩ := loop19 hty hpl (c0 := .str o) (c1 := .str p) (c2 := .str q) (c3 := .int .i64 n) (c4 := .int .i64 a) (ks := ks) (d := d) hm hf.2.2.2.2.2.1 hf.2.2.2.2.2.2 (by omega) hcall ks 0 1 hx rfl (Nat.zero_le _) (by omega) (.inr rfl) (by simp [T.get_set_ite]) (by simp [T.get_set_ite]) (by simp [T.get_set_ite]) (by simp [T.get_set_ite]) (by simp [T.get_set_ite])
  simp [EVT, endL, evSeq, evOne, evAct, evOp, opKind, evPure, evRead, evNew, evWrite, evSlice, natOf, optVal, readAt, AV.cells, wantedA, putTm, val, allVals, evBin, evInt, evStr, evAppend, evMin, nilCmp, denseFrom, sizesAre, onesIn, evPlan, recheck, H.new, H.put, fillF, fillAt, allOne, AV.one, setArgs, evRes, resOf, ofVal, ofVal0, isShift, ikBeq, TYC, hty, hpl, g5, szF, AV.wk, Enc.enc]
theorem p19_ok : PrimOk Tryz.prog 16 pSz := prim_union pd19_ok (union2 fun a b h => ⟨dep a, Nat.le_refl _, h⟩)
/-- Size, no more than 2001. -/
def sizeF (t : Nd) : Int := szF t 2001
noncomputable abbrev pSize := primVal (ofRel (Rel1 fit sizeF))
noncomputable abbrev e19 : Env := addPrim env 16 pSz
theorem p7_ok : PrimOk Tryz.prog 7 pSize := prim1_ok (addPrim_ok env_ok p19_ok) (fn := Tryz.f7) (by kernel_rfl) rfl (by kernel_rfl) fun t hf => by
  have k19 := fun h => prim2_call (E := e19) (f := 16) (a := t) (b := (2001 : Int)) (F := szF) (q := qsz') (by kernel_rfl) (Enc.bare 0 t) (Enc.bare 0 (2001 : Int)) ⟨hf, by omega⟩ h
  have hle := szF_le t 2001
  have hty : e19.ty = env.ty := rfl
  have hpl : e19.plan = env.plan := rfl
  obtain ⟨a0, a1, a2, a3, a4, a5, ha⟩ := nd_cells t
  rw [show (Enc.enc t : AV) = t.av from rfl, show (Enc.enc (2001 : Int) : AV) = .int .i64 2001 from rfl, show (Enc.enc (szF t 2001) : AV) = .int .i64 (szF t 2001) from rfl] at k19
  rw [show (Enc.enc t : AV) = t.av from rfl, show (Enc.enc (sizeF t) : AV) = .int .i64 (szF t 2001) from rfl]
  rw [ha] at k19 ⊢
  generalize szF t 2001 = k at *
  unfold bodyL
  simp only [codeAt, sub, Tryz.f7]
  have hmin : (bif ltI 2001 k then (2001 : Int) else k) = k := by
    cases hb : ltI 2001 k with
    | false => rfl
    | true => rw [ltI_eq] at hb; simp at hb; omega
  simp [EVT, endL, evSeq, evOne, evAct, evOp, opKind, evPure, evRead, evNew, evWrite, evSlice, natOf, optVal, readAt, AV.cells, wantedA, putTm, val, allVals, evBin, evInt, evStr, evAppend, evMin, nilCmp, denseFrom, sizesAre, onesIn, evPlan, recheck, H.new, H.put, fillF, fillAt, allOne, AV.one, setArgs, evRes, resOf, ofVal, ofVal0, isShift, ikBeq, TYC, hty, hpl, k19, hmin, AV.wk]
end Go.Proofs.YtogjplcnmibnlaaGreatDoor.Tr
/- The program's size. -/
namespace Go.Proofs.YtogjplcnmibnlaaGreatDoor.Tr
open Go.Proofs.YtogjplcnmibnlaaGreatDoor.Env Go.Ev Go.Ev.Nd

noncomputable def b25_0 : Code := loopOf Tryz.f63 0
theorem body25 : Tryz.f63.body = some (.seq (codeAt Tryz.f63 [0]) (.seq (codeAt Tryz.f63 [1, 0]) (.seq (.seq (codeAt Tryz.f63 [1, 1, 0, 0]) (.block 0 (.loop b25_0))) (codeAt Tryz.f63 [1, 1, 1])))) := rfl
theorem loop25 {E : Env} (hty : E.ty = env.ty) (hpl : E.plan = env.plan) {ks : List Nd} {m : Int} {d : Nat} (hm : 0 ≤ m ∧ m ≤ 4000) (hl : ks.length ≤ 9223372036854775807) (hf : fits ks) (hd : deps ks ≤ d)
    (hc : ∀ t m h, dep t ≤ d → fit t → 0 ≤ m ∧ m ≤ 4000 → evL E 63 [t.av, .int .i64 m] h = some (.int .i64 (szF t m), h)) :
    ∀ (l : List Nd) (i : Nat) (k : Int) {tm : Tm} {h : H} {x : Option (Ex × Tm × H)}, cdL E 63 27 (.loop b25_0) tm h = x → l = ks.drop i → i ≤ ks.length → 1 ≤ k → (k ≤ m ∨ k = 1) →
    tm.get 1 = some (.int .i64 m) → tm.get 5 = some (.int .i64 k) → tm.get 9 = some (.sl .no (avs ks)) → tm.get 10 = some (.int .i64 ↑ks.length) → tm.get 11 = some (.int .i64 ↑i) →
    ∃ tm' h', x = some (.exit 0, tm', h') ∧ tm'.get 5 = some (.int .i64 (szL l m k))
  | [], i, k, tm, h, x, hx, hd, hi, hk, hk2, h1, h5, h9, h10, h11 => by
    have hlen := dnil hd hi
    obtain ⟨R, hR, hx⟩ := loop_step hx
    simp [b25_0, loopOf, Tryz.f63, loops, EVT, endL, evSeq, evOne, evAct, evOp, opKind, evPure, evRead, evNew, evWrite, evSlice, natOf, optVal, readAt, AV.cells, wantedA, putTm, val, allVals, evBin, evInt, evStr, evAppend, evMin, nilCmp, denseFrom, sizesAre, onesIn, evPlan, recheck, H.new, H.put, fillF, fillAt, allOne, AV.one, setArgs, evRes, resOf, ofVal, ofVal0, isShift, ikBeq, TYC, lp, hty, hpl, h1, h5, h9, h10, h11, hlen, ltI_f] at hx
    exact ⟨_, _, by rw [← hx], by simp [T.get_set_ite, h5, szL]⟩
  | t :: l, i, k, tm, h, x, hx, hdr, hi, hk, hk2, h1, h5, h9, h10, h11 => by
    obtain ⟨hlt, hct, hd'⟩ := dcons hdr
    have hat := avs_get hct
    have htm := List.mem_of_getElem? hct
    obtain ⟨R, hR, hx⟩ := loop_step hx
    have hlt' := ltI_t hlt
    have hw := wr_succ (i := i) (by omega)
    have hcall := fun (hkm : k < m) h => hc t (m - k) h (Nat.le_trans (dep_mem htm) hd) (fits_mem.1 hf t htm) (by omega)
    obtain ⟨a0, a1, a2, a3, a4, a5, ha⟩ := nd_cells t
    rw [ha] at hat hcall
    cases hb : ltI k m with
    | false =>
      simp [b25_0, loopOf, Tryz.f63, loops, EVT, endL, evSeq, evOne, evAct, evOp, opKind, evPure, evRead, evNew, evWrite, evSlice, natOf, optVal, readAt, AV.cells, wantedA, putTm, val, allVals, evBin, evInt, evStr, evAppend, evMin, nilCmp, denseFrom, sizesAre, onesIn, evPlan, recheck, H.new, H.put, fillF, fillAt, allOne, AV.one, setArgs, evRes, resOf, ofVal, ofVal0, isShift, ikBeq, TYC, lp, hty, hpl, h1, h5, h9, h10, h11, hlt', hat, hb] at hx
      exact ⟨_, _, by rw [← hx], by simp [T.get_set_ite, h5, szL, hb]⟩
    | true =>
      have hkm : k < m := by rw [ltI_eq] at hb; simpa using hb
      have hcall := hcall hkm
      have hw1 : wr .i64 (Int.sub m k) = m - k := wrI (by show _ ≤ m - k; omega) (by show m - k < _; omega)
      have hsz := szF_le t (m - k)
      have hw2 : wr .i64 (k + szF t (m - k)) = k + szF t (m - k) := wrI (by omega) (by omega)
      simp [b25_0, loopOf, Tryz.f63, loops, EVT, endL, evSeq, evOne, evAct, evOp, opKind, evPure, evRead, evNew, evWrite, evSlice, natOf, optVal, readAt, AV.cells, wantedA, putTm, val, allVals, evBin, evInt, evStr, evAppend, evMin, nilCmp, denseFrom, sizesAre, onesIn, evPlan, recheck, H.new, H.put, fillF, fillAt, allOne, AV.one, setArgs, evRes, resOf, ofVal, ofVal0, isShift, ikBeq, TYC, lp, hty, hpl, h1, h5, h9, h10, h11, hlt', hb, hat, hw1, hcall, hw2, hw] at hx
      rw [hR] at hx
      obtain ⟨tm', h', g0, g1⟩ := loop25 hty hpl hm hl hf hd hc l (i + 1) (k + szF t (m - k)) hx hd' hlt (by omega) (by omega) (by simp [T.get_set_ite, h1]) (by simp [T.get_set_ite]) (by simp [T.get_set_ite, h9]) (by simp [T.get_set_ite, h10]) (by simp [T.get_set_ite])
      exact ⟨tm', h', g0, by rw [g1, szL, hb]; rfl⟩
theorem pd25_ok : ∀ d, PrimOk Tryz.prog 63 (pdSz d) := prim_rec env_ok (prim_none Tryz.func63 (by kernel_rfl) (by kernel_rfl) (prim_empty fun a b h => by have := dep_pos a; have := h.1; omega)) fun d hE => by
  refine prim2_ok hE (fn := Tryz.f63) (by kernel_rfl) body25 (by kernel_rfl) fun t m hq => ?_
  obtain ⟨hdp, hf, hm⟩ := hq
  have hcall : ∀ t m h, dep t ≤ d → fit t → 0 ≤ m ∧ m ≤ 4000 → evL (addPrim env 63 (pdSz d)) 63 [t.av, .int .i64 m] h = some (.int .i64 (szF t m), h) := fun t m h h1 h2 h3 =>
    prim2_call (a := t) (b := m) (F := szF) (q := qsz d) (by kernel_rfl) (Enc.bare 0 t) (Enc.bare 0 m) ⟨h1, h2, h3⟩ h
  have hty : (addPrim env 63 (pdSz d)).ty = env.ty := rfl
  have hpl : (addPrim env 63 (pdSz d)).plan = env.plan := rfl
  generalize addPrim env 63 (pdSz d) = E at *
  obtain ⟨o, p, q, n, a, ks⟩ := t
  simp only [dep] at hdp
  simp only [fit] at hf
  have hkl := avs_len ks
  rw [show (Enc.enc (Nd.mk o p q n a ks) : AV) = (Nd.mk o p q n a ks).av from rfl, show (Enc.enc m : AV) = .int .i64 m from rfl]
  unfold bodyL
  simp only [codeAt, sub, Tryz.f63]
  simp [EVT, endL, evSeq, evOne, evAct, evOp, opKind, evPure, evRead, evNew, evWrite, evSlice, natOf, optVal, readAt, AV.cells, wantedA, putTm, val, allVals, evBin, evInt, evStr, evAppend, evMin, nilCmp, denseFrom, sizesAre, onesIn, evPlan, recheck, H.new, H.put, fillF, fillAt, allOne, AV.one, setArgs, evRes, resOf, ofVal, ofVal0, isShift, ikBeq, TYC, hty, hpl, Nd.av, hkl]
  generalize hx : cdL E 63 27 (.loop b25_0) _ _ = x
  obtain ⟨tm', h', rfl, g5⟩ := loop25 hty hpl (ks := ks) (d := d) hm hf.2.2.2.2.2.1 hf.2.2.2.2.2.2 (by omega) hcall ks 0 1 hx rfl (Nat.zero_le _) (by omega) (.inr rfl) (by simp [T.get_set_ite]) (by simp [T.get_set_ite]) (by simp [T.get_set_ite]) (by simp [T.get_set_ite]) (by simp [T.get_set_ite])
  simp [EVT, endL, evSeq, evOne, evAct, evOp, opKind, evPure, evRead, evNew, evWrite, evSlice, natOf, optVal, readAt, AV.cells, wantedA, putTm, val, allVals, evBin, evInt, evStr, evAppend, evMin, nilCmp, denseFrom, sizesAre, onesIn, evPlan, recheck, H.new, H.put, fillF, fillAt, allOne, AV.one, setArgs, evRes, resOf, ofVal, ofVal0, isShift, ikBeq, TYC, hty, hpl, g5, szF, AV.wk, Enc.enc]
theorem p25_ok : PrimOk Tryz.prog 63 pSz := prim_union pd25_ok (union2 fun a b h => ⟨dep a, Nat.le_refl _, h⟩)
noncomputable abbrev e25 : Env := addPrim env 63 pSz
theorem p12_ok : PrimOk Tryz.prog 35 pSize := prim1_ok (addPrim_ok env_ok p25_ok) (fn := Tryz.f35) (by kernel_rfl) rfl (by kernel_rfl) fun t hf => by
  have k25 := fun h => prim2_call (E := e25) (f := 63) (a := t) (b := (2001 : Int)) (F := szF) (q := qsz') (by kernel_rfl) (Enc.bare 0 t) (Enc.bare 0 (2001 : Int)) ⟨hf, by omega⟩ h
  have hty : e25.ty = env.ty := rfl
  have hpl : e25.plan = env.plan := rfl
  obtain ⟨a0, a1, a2, a3, a4, a5, ha⟩ := nd_cells t
  rw [show (Enc.enc t : AV) = t.av from rfl, show (Enc.enc (2001 : Int) : AV) = .int .i64 2001 from rfl, show (Enc.enc (szF t 2001) : AV) = .int .i64 (szF t 2001) from rfl] at k25
  rw [show (Enc.enc t : AV) = t.av from rfl, show (Enc.enc (sizeF t) : AV) = .int .i64 (szF t 2001) from rfl]
  rw [ha] at k25 ⊢
  generalize szF t 2001 = k at *
  unfold bodyL
  simp only [codeAt, sub, Tryz.f35]
  simp [EVT, endL, evSeq, evOne, evAct, evOp, opKind, evPure, evRead, evNew, evWrite, evSlice, natOf, optVal, readAt, AV.cells, wantedA, putTm, val, allVals, evBin, evInt, evStr, evAppend, evMin, nilCmp, denseFrom, sizesAre, onesIn, evPlan, recheck, H.new, H.put, fillF, fillAt, allOne, AV.one, setArgs, evRes, resOf, ofVal, ofVal0, isShift, ikBeq, TYC, hty, hpl, k25, AV.wk]
end Go.Proofs.YtogjplcnmibnlaaGreatDoor.Tr
/- The program's Free: to the sort. -/
namespace Go.Proofs.YtogjplcnmibnlaaGreatDoor.Tr
open Go.Proofs.YtogjplcnmibnlaaGreatDoor.Env Go.Ev Go.Ev.Nd

theorem loop15_0 {E : Env} (hty : E.ty = env.ty) (hpl : E.plan = env.plan) (h26 : E.prim 39 = some pBindT) (h27 : E.prim 18 = some pHasS) {t : Nd} {d : Nat} (hkl : t.kids.length ≤ 9223372036854775806) (hf : fits t.kids) (hd : deps t.kids ≤ d) (hsz : sizes t.kids ≤ 1000000)
    (hc : ∀ t h, dep t ≤ d → fit t → t.size ≤ 1000000 → evL E 21 [t.av] h = some (.sl .no (strs (freeT t)), h)) :
    ∀ (l : List Nd) (i : Nat) (w : Own) (out : List Str) {tm : Tm} {h : H} {x : Option (Ex × Tm × H)}, cdL E 21 47 (.loop b15_0) tm h = x → l = t.kids.drop i → i ≤ t.kids.length → out.length + sizes l ≤ 1000000 → RowE 9 1 h w (strs out) → h.t.get 0 = some (.cells t.av.cells) → 0 < h.nx →
    tm.get 1 = some (.ptr (some (0, 0))) → tm.get 3 = some (.sl w (strs out)) → tm.get 16 = some (.sl .no (avs t.kids)) → tm.get 17 = some (.int .i64 ↑t.kids.length) → tm.get 18 = some (.int .i64 ↑i) →
    ∃ tm' h' w', x = some (.exit 0, tm', h') ∧ tm'.get 3 = some (.sl w' (strs (out ++ freeTL t.op t.name t.arg i l))) ∧ RowE 9 1 h' w' (strs (out ++ freeTL t.op t.name t.arg i l))
  | [], i, w, out, tm, h, x, hx, hdr, hi, hlen, hr, hz, hn0, g1, g3, g16, g17, g18 => by
    have hl := dnil hdr hi
    obtain ⟨R, hR, hx⟩ := loop_step hx
    rw [lb15_0] at hx
    simp only [codeAt, sub, Tryz.f21] at hx
    simp [EVT, endL, evSeq, evOne, evAct, evOp, opKind, evPure, evRead, evNew, evWrite, evSlice, natOf, optVal, readAt, AV.cells, wantedA, putTm, val, allVals, evBin, evInt, evStr, evAppend, evMin, nilCmp, denseFrom, sizesAre, onesIn, evPlan, recheck, H.new, H.put, fillF, fillAt, allOne, AV.one, setArgs, evRes, resOf, ofVal, ofVal0, isShift, ikBeq, TYC, lp, hty, hpl, g1, g3, g16, g17, g18, hl, ltI_f] at hx
    exact ⟨_, h, w, hx.symm, by simp [T.get_set_ite, g3, freeTL], by simpa [freeTL] using hr⟩
  | k :: l, i, w, out, tm, h, x, hx, hdr, hi, hlen, hr, hz, hn0, g1, g3, g16, g17, g18 => by
    obtain ⟨hlt, hct, hd'⟩ := dcons hdr
    have hat := avs_get hct
    have htm := List.mem_of_getElem? hct
    have hlt' := ltI_t hlt
    have hw := wr_succ (i := i) (by omega)
    simp only [sizes] at hlen
    have hks := size_mem htm
    have kF := fun h => hc k h (Nat.le_trans (dep_mem htm) hd) (fits_mem.1 hf k htm) (by omega)
    have kB := fun h => cBindT (E := E) h26 t ↑i h
    have hFl := freeT_len k
    have hBl := bindT_len t.op t.name t.arg ↑i
    have hfl := strs_len (freeT k)
    obtain ⟨a0, a1, a2, a3, a4, a5, ha⟩ := nd_cells k
    have hta := t.cells_
    rw [ha] at hat kF
    have hz' := hz
    rw [hta] at hz kB
    simp only [AV.cells] at hz
    rw [show bindTN t ↑i = bindT t.op t.name t.arg ↑i from rfl] at kB
    obtain ⟨R, hR, hx⟩ := loop_step hx
    rw [lb15_0] at hx
    simp only [codeAt, sub, Tryz.f21] at hx
    have hn1 : ¬ (0 = h.nx) := by omega
    have hn2 : ¬ (h.nx = 0) := by omega
    simp [EVT, endL, evSeq, evOne, evAct, evOp, opKind, evPure, evRead, evNew, evWrite, evSlice, natOf, optVal, readAt, AV.cells, wantedA, putTm, val, allVals, evBin, evInt, evStr, evAppend, evMin, nilCmp, denseFrom, sizesAre, onesIn, evPlan, recheck, H.new, H.put, fillF, fillAt, allOne, AV.one, setArgs, evRes, resOf, ofVal, ofVal0, isShift, ikBeq, TYC, lp, hty, hpl, g1, g3, g16, g17, g18, hlt', hat, hz, hn1, hn2, kF, kB, hfl] at hx
    generalize hy : cdL E 21 47 (.loop b15_1) _ _ = y at hx
    have hrN : ∀ (h2 : H), h2.nx = h.nx + 1 → (∀ j, j < h.nx → h2.t.get j = h.t.get j) → RowE 9 1 h2 w (strs out) := fun h2 q1 q2 => hr.mono (by omega) q2
    have hw0 : w ≠ .ch 0 := hr.ne hz'
    obtain ⟨tm2, h2, w2, rfl, q3, q4, q5, q6, q7, q8⟩ := loop15_1 hty hpl h27 (B := bindT t.op t.name t.arg ↑i) (F := freeT k) (by omega) (by omega) (freeT k) 0 w out hy rfl (Nat.zero_le _) (by omega) (hrN _ (by simp) fun j hj => by simp only [T.get_set_ite]; repeat rw [if_neg (by omega)]) (by simp [T.get_set_ite, g3]) (by simp [T.get_set_ite]) (by simp [T.get_set_ite]) (by simp [T.get_set_ite]) (by simp [T.get_set_ite])
    have p1 := q5 1 (by omega) (by omega) (by omega)
    have p16 := q5 16 (by omega) (by omega) (by omega)
    have p17 := q5 17 (by omega) (by omega) (by omega)
    have p18 := q5 18 (by omega) (by omega) (by omega)
    simp [T.get_set_ite, g1, g16, g17, g18] at p1 p16 p17 p18
    simp only at q6 q7
    have hz2 : h2.t.get 0 = some (.cells t.av.cells) := by
      rw [q7 0 (by omega) hw0, ← hz']
      simp only [T.get_set_ite]
      repeat rw [if_neg (by omega)]
    simp [EVT, endL, evSeq, evOne, evAct, evOp, opKind, evPure, evRead, evNew, evWrite, evSlice, natOf, optVal, readAt, AV.cells, wantedA, putTm, val, allVals, evBin, evInt, evStr, evAppend, evMin, nilCmp, denseFrom, sizesAre, onesIn, evPlan, recheck, H.new, H.put, fillF, fillAt, allOne, AV.one, setArgs, evRes, resOf, ofVal, ofVal0, isShift, ikBeq, TYC, lp, hty, hpl, q3, p1, p16, p17, p18, hw] at hx
    rw [hR] at hx
    have hol := notB_len (bindT t.op t.name t.arg ↑i) (freeT k)
    obtain ⟨tm', h', w', e1, e2, e3⟩ := loop15_0 hty hpl h26 h27 hkl hf hd hsz hc l (i + 1) w2 (out ++ notB (bindT t.op t.name t.arg ↑i) (freeT k)) hx hd' hlt (by simp; omega) q4 hz2 (by omega) (by simp [T.get_set_ite, p1]) (by simp [T.get_set_ite, q3]) (by simp [T.get_set_ite, p16]) (by simp [T.get_set_ite, p17]) (by simp [T.get_set_ite])
    exact ⟨tm', h', w', e1, by simpa [freeTL] using e2, by simpa [freeTL] using e3⟩
theorem bodyT15 : Tryz.f21.body = some (.seq (codeAt Tryz.f21 [0]) (.seq (codeAt Tryz.f21 [1, 0]) (.seq (codeAt Tryz.f21 [1, 1, 0]) (.seq (.seq (codeAt Tryz.f21 [1, 1, 1, 0, 0]) (.block 0 (.loop b15_0))) (codeAt Tryz.f21 [1, 1, 1, 1]))))) := rfl
noncomputable def pre15 : Code := .seq (codeAt Tryz.f21 [0]) (.seq (codeAt Tryz.f21 [1, 0]) (.seq (codeAt Tryz.f21 [1, 1, 0]) (.seq (codeAt Tryz.f21 [1, 1, 1, 0, 0]) (.block 0 (.loop b15_0)))))
theorem pre15_run {E : Env} (hty : E.ty = env.ty) (hpl : E.plan = env.plan) (h26 : E.prim 39 = some pBindT) (h27 : E.prim 18 = some pHasS) {t : Nd} {d : Nat} (hv : natsBeq t.op varS = false) (hf : fit t) (hd : deps t.kids ≤ d) (hsz : t.size ≤ 1000000) (hkl : t.kids.length ≤ 9223372036854775806)
    (hc : ∀ t h, dep t ≤ d → fit t → t.size ≤ 1000000 → evL E 21 [t.av] h = some (.sl .no (strs (freeT t)), h)) :
    ∃ tm h' w', cdL E 21 47 pre15 (setArgs 0 [t.av] .e) ⟨.e, 0⟩ = some (.normal, tm, h') ∧ tm.get 3 = some (.sl w' (strs (freeTL t.op t.name t.arg 0 t.kids))) ∧ RowE 9 1 h' w' (strs (freeTL t.op t.name t.arg 0 t.kids)) := by
  have hta := t.cells_
  have hkn := avs_len t.kids
  have hv' : natsBeq t.op [118, 97, 114] = false := hv
  rw [size_eq] at hsz
  have hfit := (fit_iff t).1 hf
  have hL := fun (x : Option (Ex × Tm × H)) tm h => loop15_0 hty hpl h26 h27 (t := t) (d := d) hkl hfit.2.2.2.2.2.2 hd (by omega) hc t.kids 0 .full [] (x := x) (tm := tm) (h := h)
  rw [hta] at hL ⊢
  simp only [AV.cells] at hL
  unfold pre15
  simp only [codeAt, sub, Tryz.f21]
  simp [EVT, endL, evSeq, evOne, evAct, evOp, opKind, evPure, evRead, evNew, evWrite, evSlice, natOf, optVal, readAt, AV.cells, wantedA, putTm, val, allVals, evBin, evInt, evStr, evAppend, evMin, nilCmp, denseFrom, sizesAre, onesIn, evPlan, recheck, H.new, H.put, fillF, fillAt, allOne, AV.one, setArgs, evRes, resOf, ofVal, ofVal0, isShift, ikBeq, TYC, hty, hpl, hkn, bytesOf, hv']
  generalize hx : cdL E 21 47 (.loop b15_0) _ _ = x
  obtain ⟨tm', h', w', rfl, q3, q4⟩ := hL x _ _ hx rfl (Nat.zero_le _) (by simp; omega) (.inl ⟨rfl, rfl⟩) (by simp [T.get_set_ite]) (by simp) (by simp [T.get_set_ite]) (by simp [T.get_set_ite, strs]) (by simp [T.get_set_ite]) (by simp [T.get_set_ite]) (by simp [T.get_set_ite])
  exact ⟨tm', h', rfl, w', by simpa using q3, by simpa using q4⟩
theorem var15_run {E : Env} (hty : E.ty = env.ty) (hpl : E.plan = env.plan) {t : Nd} (hv : natsBeq t.op varS = true) : ∃ h1, bodyL E 21 Tryz.f21 (.seq (codeAt Tryz.f21 [0]) (.seq (codeAt Tryz.f21 [1, 0]) (.seq (codeAt Tryz.f21 [1, 1, 0]) (.seq (.seq (codeAt Tryz.f21 [1, 1, 1, 0, 0]) (.block 0 (.loop b15_0))) (codeAt Tryz.f21 [1, 1, 1, 1]))))) [t.av] ⟨.e, 0⟩ = some (.sl .full (strs [⟨t.name⟩]), h1) := by
  have hta := t.cells_
  have hv' : natsBeq t.op [118, 97, 114] = true := hv
  rw [hta]
  unfold bodyL
  simp only [codeAt, sub, Tryz.f21]
  simp [EVT, endL, evSeq, evOne, evAct, evOp, opKind, evPure, evRead, evNew, evWrite, evSlice, natOf, optVal, readAt, AV.cells, wantedA, putTm, val, allVals, evBin, evInt, evStr, evAppend, evMin, nilCmp, denseFrom, sizesAre, onesIn, evPlan, recheck, H.new, H.put, fillF, fillAt, allOne, AV.one, setArgs, evRes, resOf, ofVal, ofVal0, isShift, ikBeq, TYC, hty, hpl, bytesOf, hv', strs]
end Go.Proofs.YtogjplcnmibnlaaGreatDoor.Tr
