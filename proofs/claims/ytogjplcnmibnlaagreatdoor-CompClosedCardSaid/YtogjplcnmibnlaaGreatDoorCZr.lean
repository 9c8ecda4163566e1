/- CompClosed answers true: in an env of its free names an expression has code, with one of them less it has none. -/
import Derived.Test.YtogjplcnmibnlaaGreatDoorCZp0
set_option autoImplicit false
set_option maxRecDepth 100000
set_option linter.unusedSimpArgs false
set_option linter.unusedVariables false
set_option linter.unusedSectionVars false
set_option maxHeartbeats 8000000
namespace Go.Proofs.YtogjplcnmibnlaaGreatDoor.Env
open Go.Ev Go.Ev.Nd

/-- So long the codes of the functions that are made are. -/
def LenN (k : Nat) (r : G3) : Prop := ∀ c ∈ r.2.1, c.length ≤ k
theorem LenN.thenG {k : Nat} {x : G3} {y : List Str → Nat → Nat → G3} {nf pos : Nat} (hx : LenN k x) (hy : ∀ S nf pos, LenN k (y S nf pos)) : LenN k (Env.thenG x y nf pos) := fun c hc => by
  simp only [Env.thenG, List.mem_append] at hc
  exact hc.elim (hx c) (hy _ _ _ c)
theorem LenN.putG (k : Nat) (i : Ins) (S : List Str) (nf pos : Nat) : LenN k (Env.putG i S nf pos) := fun c hc => by simp [Env.putG] at hc
theorem LenN.more {a b : Nat} {x : G3} (h : LenN a x) (h1 : a ≤ b) : LenN b x := fun c hc => Nat.le_trans (h c hc) h1
theorem LenN.two {op : Int} {k : Nat} {x y : List Str → Nat → Nat → G3} (hx : ∀ S nf pos, LenN k (x S nf pos)) (hy : ∀ S nf pos, LenN k (y S nf pos)) (S : List Str) (nf pos : Nat) : LenN k (twoG op x y S nf pos) := fun c hc => by
  simp only [twoG, List.mem_append] at hc
  exact hc.elim (hx _ _ _ c) (hy _ _ _ c)
theorem LenN.genB {g : GF} {t : Nd} {k : Nat} (hg : ∀ en S nf pos, LenN k (g t en S nf pos)) (p : List Nat) (en S : List Str) (nf pos : Nat) : LenN k (Env.genB g t p en S nf pos) := fun c hc => by
  simp only [Env.genB] at hc
  exact hg _ _ _ _ c hc
theorem LenN.genK {g : GF} {en : List Str} {k : Nat} : ∀ (l : List Nd), (∀ t ∈ l, ∀ en S nf pos, LenN k (g t en S nf pos)) → ∀ S nf pos, LenN k (Env.genK g en l S nf pos)
  | [], _, S, nf, pos => fun c hc => by simp [Env.genK] at hc
  | t :: l, h, S, nf, pos => LenN.thenG (h t (List.mem_cons_self ..) en S nf pos) (LenN.genK l fun x hx => h x (List.mem_cons_of_mem _ hx))
theorem LenN.fn {g : GF} {t : Nd} {k a : Nat} (hg : ∀ en S nf pos, LenN k (g t en S nf pos)) (hl : ∀ en S nf pos, LenG S a k (g t en S nf pos)) (en S : List Str) (nf : Nat) : ∀ c ∈ (genFn g t en S nf).2, c.length ≤ k + 1 := fun c hc => by
  simp only [genFn, List.mem_cons] at hc
  rcases hc with rfl | hc
  · have := (hl en S (nf + 1) 0).2.2
    simp only [List.length_append, List.length_cons, List.length_nil]; omega
  · exact Nat.le_succ_of_le (hg _ _ _ _ c hc)
theorem gen_codes : ∀ (d : Nat) (t : Nd) (en S : List Str) (nf pos : Nat), arOk t = true → LenN (8 * t.size) (gen d t en S nf pos)
  | 0, t, en, S, nf, pos, _ => fun c hc => by simp [gen] at hc
  | d + 1, t, en, S, nf, pos, ha => by
    obtain ⟨har, hk⟩ := arOk_kids ha
    have hs1 : 1 ≤ t.size := by rw [size_eq]; omega
    have ihk : ∀ i, i < t.kids.length → (kid t i).size ≤ t.size → ∀ en S nf pos, LenN (8 * t.size) (gen d (kid t i) en S nf pos) := fun i hi hs en S nf pos => (gen_codes d _ en S nf pos (hk _ (kid_mem hi))).more (by omega)
    have ihf : ∀ i, i < t.kids.length → (kid t i).size + 1 ≤ t.size → ∀ en S nf, ∀ c ∈ (genFn (gen d) (kid t i) en S nf).2, c.length ≤ 8 * t.size := fun i hi hs en S nf c hc => by
      have := LenN.fn (fun en S nf pos => gen_codes d (kid t i) en S nf pos (hk _ (kid_mem hi))) (fun en S nf pos => gen_len d (kid t i) en S nf pos (hk _ (kid_mem hi))) en S nf c hc
      omega
    unfold gen
    split
    · exact fun c hc => by simp at hc
    · cases c1 : natsBeq t.op oFun with
      | true =>
        have hn := har 1 (by simp [arity, c1])
        have := kids1 hn
        simp only [cond_true]
        exact fun c hc => ihf 0 (by omega) (by omega) _ _ _ c hc
      | false =>
      cases c2 : natsBeq t.op oLet with
      | true =>
        have hn := har 2 (by simp [arity, c1, c2])
        have := kids2 hn
        simp only [cond_true, cond_false]
        exact LenN.thenG (ihk 0 (by omega) (by omega) en S nf pos) fun S nf pos => LenN.genB (ihk 1 (by omega) (by omega)) t.name en S nf pos
      | false =>
      cases c3 : natsBeq t.op oRec with
      | true =>
        have hn := har 2 (by simp [arity, c1, c2, c3])
        have := kids2 hn
        have s1 : 1 ≤ (kid t 1).size := by rw [size_eq]; omega
        simp only [cond_true, cond_false]
        exact LenN.thenG (fun c hc => ihf 0 (by omega) (by omega) _ _ _ c hc) fun S nf pos => LenN.genB (ihk 1 (by omega) (by omega)) t.name en S nf pos
      | false =>
      cases c4 : natsBeq t.op oIf with
      | true =>
        have hn := har 3 (ar3 c4 (.inl rfl))
        have := kids3 hn
        simp only [cond_true, cond_false]
        exact LenN.thenG (ihk 0 (by omega) (by omega) en S nf pos) fun S nf pos => LenN.two (ihk 1 (by omega) (by omega) en) (ihk 2 (by omega) (by omega) en) S nf pos
      | false =>
      cases c5 : natsBeq t.op oMatch with
      | true =>
        have hn := har 3 (ar3 c5 (.inr rfl))
        have := kids3 hn
        simp only [cond_true, cond_false]
        exact LenN.thenG (ihk 0 (by omega) (by omega) en S nf pos) fun S nf pos => LenN.two (fun S nf pos => LenN.thenG (LenN.thenG (ihk 2 (by omega) (by omega) _ S nf pos) fun S nf pos => LenN.putG _ _ S nf pos) fun S nf pos => LenN.putG _ _ S nf pos) (ihk 1 (by omega) (by omega) en) S nf pos
      | false =>
      cases c6 : natsBeq t.op oTry with
      | true =>
        have hn := har 2 (by simp [arity, c1, c2, c3, c6])
        have := kids2 hn
        simp only [cond_true, cond_false]
        exact LenN.two (fun S nf pos => LenN.thenG (ihk 0 (by omega) (by omega) en S nf pos) fun S nf pos => LenN.putG _ _ S nf pos) (fun S nf pos => LenN.genB (ihk 1 (by omega) (by omega)) t.name en S nf pos) S nf pos
      | false =>
      cases c7 : natsBeq t.op oSeq with
      | true =>
        have hn := har 2 (by simp [arity, c1, c2, c3, c6, c7])
        have := kids2 hn
        simp only [cond_true, cond_false]
        exact LenN.thenG (LenN.thenG (ihk 0 (by omega) (by omega) en S nf pos) fun S nf pos => LenN.putG _ _ S nf pos) fun S nf pos => ihk 1 (by omega) (by omega) en S nf pos
      | false =>
        simp only [cond_false]
        have hs := size_eq t
        refine LenN.thenG (LenN.genK t.kids (fun k hm en S nf pos => (gen_codes d k en S nf pos (hk k hm)).more ?_) S nf pos) fun S nf pos => LenN.putG _ _ S nf pos
        have : ∀ l : List Nd, k ∈ l → k.size ≤ sizes l := by
          intro l
          induction l with
          | nil => intro h; simp at h
          | cons a l ih =>
            intro h
            simp only [sizes]
            rcases List.mem_cons.1 h with rfl | h
            · omega
            · have := ih h; omega
        have := this t.kids hm
        omega
/-- In an env of its free names there is code. -/
theorem ofF_closed {t : Nd} (hs : t.size ≤ 100) (ha : arOk t = true) (L : List Str) {en : List Str} (hl : ltI 4 ↑en.length = false) (hst : strangeL L en = false) :
    ofF true L t en = (↑en.length, (genFn (gen t.dep) t en [] 0).2, (genFn (gen t.dep) t en [] 0).1, 0) := by
  unfold ofF
  rw [hl, hst]
  have hlen := gen_len t.dep t en [] 1 0 ha
  have h1 : ltI 200 ↑(genFn (gen t.dep) t en [] 0).2.length = false := by
    rw [ltI_eq]
    have := hlen.2.1
    simp only [genFn, List.length_cons, Nat.zero_add]
    simp; omega
  have h2 : longL (genFn (gen t.dep) t en [] 0).2 = false := by
    refine List.any_eq_false.2 fun c hc => ?_
    have := LenN.fn (fun en S nf pos => gen_codes t.dep t en S nf pos ha) (fun en S nf pos => gen_len t.dep t en S nf pos ha) en [] 0 c hc
    rw [Bool.not_eq_true, ltI_eq]
    simp; omega
  rw [h1, h2]
  rfl
theorem strange_self (L : List Str) : strangeL L L = false := List.any_eq_false.2 fun x hx => by simp [hasS_iff.2 (show (⟨x.s⟩ : Str) ∈ L from hx)]
theorem strange_less {L : List Str} (hp : L.Pairwise fun x y => x ≠ y) {k : Nat} (hk : k < L.length) : strangeL L (L.take k ++ L.drop (k + 1)) = true := by
  refine List.any_eq_true.2 ⟨L[k], List.getElem_mem hk, ?_⟩
  have : hasS (L.take k ++ L.drop (k + 1)) L[k].s = false := by
    cases hb : hasS (L.take k ++ L.drop (k + 1)) L[k].s with
    | false => rfl
    | true =>
      have hm := hasS_iff.1 hb
      have hm : L[k] ∈ L.take k ++ L.drop (k + 1) := hm
      rw [List.mem_append] at hm
      rw [List.pairwise_iff_getElem] at hp
      rcases hm with hm | hm
      · obtain ⟨i, hi, e⟩ := List.mem_iff_getElem.1 hm
        rw [List.length_take] at hi
        rw [List.getElem_take] at e
        exact absurd e (hp i k (by omega) hk (by omega))
      · obtain ⟨i, hi, e⟩ := List.mem_iff_getElem.1 hm
        rw [List.length_drop] at hi
        rw [List.getElem_drop] at e
        exact absurd e.symm (hp k (k + 1 + i) hk (by omega) (by omega))
  rw [this]; rfl
theorem and16 (x : Int) : ∃ a : Nat, a ≤ 65535 ∧ wr .i64 (Int.ofNat (BitVec.toNat (BitVec.ofInt IntKind.i64.bits x &&& BitVec.ofInt IntKind.i64.bits 65535))) = ↑a := by
  have h1 : (BitVec.toNat (BitVec.ofInt IntKind.i64.bits x &&& BitVec.ofInt IntKind.i64.bits 65535)) ≤ 65535 := by
    rw [BitVec.toNat_and]
    exact Nat.and_le_right
  generalize (BitVec.toNat (BitVec.ofInt IntKind.i64.bits x &&& BitVec.ofInt IntKind.i64.bits 65535)) = a at *
  exact ⟨a, h1, by rw [wr_eq]; show IntKind.i64.wrap (↑a : Int) = ↑a; exact wrap_i64_in (by omega) (by omega)⟩
theorem pl_5_13 : env.plan 5 13 = some [⟨0, false, []⟩, ⟨1, false, []⟩, ⟨2, false, []⟩, ⟨3, false, []⟩, ⟨4, false, []⟩, ⟨6, false, []⟩, ⟨7, false, []⟩, ⟨8, false, []⟩, ⟨9, false, []⟩, ⟨15, false, []⟩, ⟨5, true, [0]⟩, ⟨10, true, [0]⟩, ⟨11, true, []⟩, ⟨12, false, []⟩, ⟨13, false, []⟩, ⟨14, false, []⟩, ⟨16, true, []⟩, ⟨17, false, []⟩] := by kernel_rfl
end Go.Proofs.YtogjplcnmibnlaaGreatDoor.Env
/- CompClosed answers true: the walk. -/
set_option maxHeartbeats 8000000
namespace Go.Proofs.YtogjplcnmibnlaaGreatDoor.Env
open Go.Ev Go.Ev.Nd

theorem body5 : Tryz.f5.body = some (codeAt Tryz.f5 []) := rfl
theorem strs_take (L : List Str) (k : Nat) : (strs L).take k = strs (L.take k) := by simp [strs]
theorem strs_drop (L : List Str) (k : Nat) : (strs L).drop k = strs (L.drop k) := by simp [strs]
theorem law5 (t : Nd) (hf : fit t) (less : Int) : ∃ h', evL eC 5 [t.av, .int .i64 less] ⟨.e, 0⟩ = some (.bool true, h') := by
  have hty : eC.ty = env.ty := rfl
  have hpl : eC.plan = env.plan := rfl
  have k7 := fun h => k7C hf h
  have k11 := k11C
  have k14 : ∀ h, evL eC 14 [t.av] h = some (.bool (Tr.isR t), h) := fun h => prim1_call (a := t) (F := Tr.isR) eC_of.isR (Enc.bare 0 t) hf h
  obtain ⟨y, hy⟩ : ∃ y, evL eC 5 [t.av, .int .i64 less] ⟨.e, 0⟩ = y := ⟨_, rfl⟩
  rw [hy]
  rw [evL_fn eC (eC_none (by simp)) (by kernel_rfl) body5 _ _ rfl] at hy
  simp only [codeAt, condAt, sub, Tryz.f5] at hy
  cases h100 : ltI 100 (Tr.sizeF t) with
  | true =>
    rw [cells_ t] at k7 hy
    generalize eC = E at *
    simp [EVT, endL, evSeq, evOne, evAct, evOp, opKind, evPure, evRead, evNew, evWrite, evSlice, natOf, optVal, readAt, AV.cells, wantedA, putTm, val, allVals, evBin, evInt, evStr, evAppend, evMin, nilCmp, denseFrom, sizesAre, onesIn, evPlan, recheck, H.new, H.put, fillF, fillAt, allOne, AV.one, setArgs, evRes, resOf, ofVal, ofVal0, isShift, ikBeq, TYC, hty, hpl, k7, h100] at hy
    exact ⟨_, hy.symm⟩
  | false =>
  cases his : Tr.isR t with
  | false =>
    rw [his] at k14
    rw [cells_ t] at k7 k14 hy
    generalize eC = E at *
    simp [EVT, endL, evSeq, evOne, evAct, evOp, opKind, evPure, evRead, evNew, evWrite, evSlice, natOf, optVal, readAt, AV.cells, wantedA, putTm, val, allVals, evBin, evInt, evStr, evAppend, evMin, nilCmp, denseFrom, sizesAre, onesIn, evPlan, recheck, H.new, H.put, fillF, fillAt, allOne, AV.one, setArgs, evRes, resOf, ofVal, ofVal0, isShift, ikBeq, TYC, hty, hpl, k7, h100, k14] at hy
    exact ⟨_, hy.symm⟩
  | true =>
    obtain ⟨hs2, he⟩ := is_size his
    have har := each_ar t he
    have hsz : t.size ≤ 100 := by
      have h1 := Tr.szF_le t 2001
      rw [ltI_eq] at h100
      simp at h100
      unfold Tr.sizeF at h100
      have := Tr.szF_size t 2001 (by omega)
      rw [this] at h100
      omega
    have hfe := Tr.free_eq he hf
    have hLl : (Tr.freeRF t).length ≤ t.size := by rw [← hfe]; exact Tr.freeT_len t
    have k15 : ∀ h, evL eC 15 [t.av] h = some (.sl .no (strs (Tr.freeRF t)), h) := fun h => prim1_call (a := t) (F := Tr.freeRF) eC_of.freeR (Enc.bare 0 t) ⟨hf, by omega⟩ h
    have hpw : (Tr.freeRF t).Pairwise fun x y => x ≠ y := by rw [← hfe]; exact (Tr.freeT_strict t).imp fun h => h.2
    obtain ⟨L, hL⟩ : ∃ L, Tr.freeRF t = L := ⟨_, rfl⟩
    rw [hL] at k15 hLl hpw
    have hfe' : Tr.freeT t = L := hfe.trans hL
    have hil := strs_len L
    rw [his] at k14
    obtain ⟨h0, hh0⟩ : ∃ h0 : H, h0 = ⟨T.e.set 0 (.cells [.str t.op, .str t.name, .str t.arg, .int .i64 t.n, .int .i64 t.at_, .sl .no (avs t.kids)]), 0 + 1⟩ := ⟨_, rfl⟩
    have b0 : h0.t.get 0 = some (.cells [.str t.op, .str t.name, .str t.arg, .int .i64 t.n, .int .i64 t.at_, .sl .no (avs t.kids)]) := by rw [hh0]; exact T.get_set _ _ _
    have nx0 : h0.nx = 1 := by rw [hh0]
    obtain ⟨h1, v1, k8, n1, g1, p1⟩ := of_run eC_of t hf L .no (by omega) h0
    rw [his, hfe'] at k8 p1
    have b1 : h1.t.get 0 = some (.cells [.str t.op, .str t.name, .str t.arg, .int .i64 t.n, .int .i64 t.at_, .sl .no (avs t.kids)]) := (g1 0 (by omega)).trans b0
    cases hl4 : ltI 4 ↑L.length with
    | true =>
      have eF : ofF true L t L = (0, [], [], 1) := by unfold ofF; rw [hl4]; rfl
      rw [eF] at k8 p1
      obtain ⟨fv1, w1, F1, e1, r1, _, _⟩ := p1
      have o1 := r1.shape
      clear r1
      subst e1
      rw [cells_ t] at k7 k8 k14 k15 hy
      rw [hh0] at k8
      have z1 : 0 ≠ h1.nx := by omega
      generalize eC = E at *
      rcases o1 with rfl | ⟨i1, m1, rfl⟩ <;> simp [EVT, endL, evSeq, evOne, evAct, evOp, opKind, evPure, evRead, evNew, evWrite, evSlice, natOf, optVal, readAt, AV.cells, wantedA, putTm, val, allVals, evBin, evInt, evStr, evAppend, evMin, nilCmp, denseFrom, sizesAre, onesIn, evPlan, recheck, H.new, H.put, fillF, fillAt, allOne, AV.one, setArgs, evRes, resOf, ofVal, ofVal0, isShift, ikBeq, TYC, hty, hpl, k7, h100, k14, k15, hil, hl4, k8, k11, b1, z1] at hy <;> exact ⟨_, hy.symm⟩
    | false =>
      have eF := ofF_closed hsz har L hl4 (strange_self L)
      rw [eF] at k8 p1
      obtain ⟨fv1, w1, F1, e1, r1, _, _⟩ := p1
      have o1 := r1.shape
      clear r1
      subst e1
      generalize (genFn (gen t.dep) t L [] 0).1 = eS at *
      have hq : intBeq ↑L.length ↑L.length = true := intBeq_iff.2 rfl
      have hz : intBeq 0 0 = true := rfl
      have hz1 : intBeq 1 1 = true := rfl
      have z1 : 0 ≠ h1.nx := by omega
      rw [hh0] at k8
      cases h00 : intBeq ↑L.length 0 with
      | true =>
        rw [cells_ t] at k7 k8 k14 k15 hy
        generalize eC = E at *
        rcases o1 with rfl | ⟨i1, m1, rfl⟩ <;> simp [EVT, endL, evSeq, evOne, evAct, evOp, opKind, evPure, evRead, evNew, evWrite, evSlice, natOf, optVal, readAt, AV.cells, wantedA, putTm, val, allVals, evBin, evInt, evStr, evAppend, evMin, nilCmp, denseFrom, sizesAre, onesIn, evPlan, recheck, H.new, H.put, fillF, fillAt, allOne, AV.one, setArgs, evRes, resOf, ofVal, ofVal0, isShift, ikBeq, TYC, hty, hpl, k7, h100, k14, k15, hil, hl4, k8, k11, b1, z1, hq, hz, h00] at hy <;> exact ⟨_, hy.symm⟩
      | false =>
        have hpos : 0 < L.length := by
          rcases Nat.eq_zero_or_pos L.length with h | h
          · rw [h] at h00; cases h00
          · exact h
        obtain ⟨a, ha16, ea⟩ := and16 less
        simp at ea
        have hkl : a % L.length < L.length := Nat.mod_lt _ hpos
        have hmod : Int.tmod (↑a : Int) ↑L.length = ↑(a % L.length) := by rfl
        obtain ⟨k, hk⟩ : ∃ k, a % L.length = k := ⟨_, rfl⟩
        rw [hk] at hkl hmod
        obtain ⟨k1, hk1⟩ : ∃ k1, k1 = k + 1 := ⟨_, rfl⟩
        -- behind the first program
        obtain ⟨h1a, hh1a⟩ : ∃ h1a : H, h1a = ⟨(h1.t.set h1.nx (.cells zeroC)).set h1.nx (.cells [.int .i64 ↑L.length, fv1, .sl w1 (strs eS)]), h1.nx + 1⟩ := ⟨_, rfl⟩
        obtain ⟨h2, hh2⟩ : ∃ h2 : H, h2 = ⟨h1a.t.set h1a.nx (.cells zeroC), h1a.nx + 1⟩ := ⟨_, rfl⟩
        have nx1a : h1a.nx = h1.nx + 1 := by rw [hh1a]
        have nx2 : h2.nx = h1.nx + 1 + 1 := by rw [hh2, nx1a]
        have b2 : h2.t.get 0 = some (.cells [.str t.op, .str t.name, .str t.arg, .int .i64 t.n, .int .i64 t.at_, .sl .no (avs t.kids)]) := by
          rw [hh2]
          simp only [T.get_set_ite]
          rw [if_neg (by omega), hh1a]
          simp only [T.get_set_ite]
          rw [if_neg (by omega), if_neg (by omega)]
          exact b1
        have c2 : h2.t.get (h1.nx + 1) = some (.cells zeroC) := by rw [hh2, nx1a]; exact T.get_set _ _ _
        have lt1 : (L.take k).length = k := by rw [List.length_take]; omega
        have lt2 : (L.drop k1).length = L.length - k1 := List.length_drop ..
        have l1 := strs_len (L.take k)
        have l2 := strs_len (L.drop k1)
        obtain ⟨w3, h3, q1, r3, n3, g3⟩ := app_any (e := 9) (sz := 1) (byt := 16) (h := h2) (w := .full) (xs := []) (ys := strs (L.take k)) (by omega) (by omega) rfl (strs_sz _) (strs_ones _) (by simp [l1]; omega) (.inl ⟨rfl, rfl⟩)
        rw [List.nil_append] at q1 r3
        obtain ⟨w4, h4, q2, r4, n4, g4⟩ := app_any (e := 9) (sz := 1) (byt := 16) (xs := strs (L.take k)) (ys := strs (L.drop k1)) (by omega) (by omega) (strs_sz _) (strs_sz _) (strs_ones _) (by rw [l1, l2]; omega) r3
        have ow := own_app (h := h2) (.inl ⟨rfl, rfl⟩) q1
        have old4 : ∀ j, j < h2.nx → h4.t.get j = h2.t.get j := fun j hj => by
          rw [g4 j (by omega) (fun e => by rcases ow j e with h3 | h3; · cases h3
                                           · omega), g3 j hj (by simp)]
        rw [← strs_app] at q2
        obtain ⟨h5, v5, k8', n5, g5, p5⟩ := of_run eC_of t hf (L.take k ++ L.drop k1) w4 (by simp; omega) h4
        rw [his, hfe'] at k8' p5
        have hst := strange_less hpw hkl
        rw [← hk1] at hst
        have eF2 : ofF true L t (L.take k ++ L.drop k1) = (0, [], [], 1) := by unfold ofF; rw [hst]; simp
        rw [eF2] at k8' p5
        obtain ⟨fv5, w5, F5, e5, r5, _, _⟩ := p5
        have o5 := r5.shape
        clear r5
        subst e5
        have c5 : h5.t.get (h1.nx + 1) = some (.cells zeroC) := by rw [g5 _ (by omega), old4 _ (by omega)]; exact c2
        have b3 := (g3 0 (by omega) (by simp)).trans b2
        have b4 := (old4 0 (by omega)).trans b2
        have b5 := (g5 0 (by omega)).trans b4
        have hle1 : k ≤ L.length := by omega
        have hle2 : k1 ≤ L.length := by omega
        have hw1 : wr .i64 ((↑k : Int) + 1) = ↑k1 := by rw [hk1]; exact wr_succ (i := k) (by omega)
        have st1 : (strs L).take k = strs (L.take k) := strs_take L k
        have st2 : (strs L).drop k1 = strs (L.drop k1) := strs_drop L k1
        have st3 : (strs (L.drop k1)).take (L.length - k1) = strs (L.drop k1) := by rw [List.take_of_length_le]; rw [l2, lt2]; exact Nat.le_refl _
        have z2 : 0 ≠ h1.nx + 1 := by omega
        have z3 : h1.nx ≠ h1.nx + 1 := by omega
        rw [hh2, hh1a] at q1
        simp only [zeroC] at q1 c5
        have b0' := b1
        rw [cells_ t] at k7 k8 k8' k14 k15 hy
        generalize eC = E at *
        have sz1 := strs_sz L
        rcases o1 with rfl | ⟨i1, m1, rfl⟩ <;> rcases o5 with rfl | ⟨i5, m5, rfl⟩ <;> simp [EVT, endL, evSeq, evOne, evAct, evOp, opKind, evPure, evRead, evNew, evWrite, evSlice, natOf, optVal, readAt, AV.cells, wantedA, putTm, val, allVals, evBin, evInt, evStr, evAppend, evMin, nilCmp, denseFrom, sizesAre, onesIn, evPlan, recheck, H.new, H.put, fillF, fillAt, allOne, AV.one, setArgs, evRes, resOf, ofVal, ofVal0, isShift, ikBeq, TYC, pl_5_13, hty, hpl, k7, h100, k14, k15, hil, hl4, k8, k11, b1, z1, hq, hz, hz1, h00, ea, hmod, hle1, hle2, hw1, st1, st2, st3, sz1, q1, q2, k8', c5, b3, b4, b5, z2, z3, -evAppend] at hy <;> exact ⟨_, hy.symm⟩
end Go.Proofs.YtogjplcnmibnlaaGreatDoor.Env
