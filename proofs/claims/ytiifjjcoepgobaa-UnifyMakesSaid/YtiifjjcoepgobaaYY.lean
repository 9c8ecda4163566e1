/- The reference's say. -/
import Derived.Test.YtiifjjcoepgobaaYW
set_option autoImplicit false
set_option maxRecDepth 100000
set_option linter.unusedSimpArgs false
set_option linter.unusedVariables false
set_option linter.unusedSectionVars false
namespace Go.Proofs.Ytiifjjcoepgobaa.Env
open Go.Ev

theorem nodup_le : ∀ {a b : List Int}, a.Nodup → (∀ n ∈ a, n ∈ b) → a.length ≤ b.length
  | [], b, _, _ => Nat.zero_le _
  | n :: a, b, h, hm => by
    have hn := List.nodup_cons.1 h
    have hb := hm n (List.mem_cons_self ..)
    have := nodup_le (b := b.erase n) hn.2 fun k hk => by
      refine (List.mem_erase_of_ne ?_).2 (hm k (List.mem_cons_of_mem _ hk))
      rintro rfl
      exact hn.1 hk
    rw [List.length_erase_of_mem hb] at this
    have hpos : 0 < b.length := List.length_pos_of_mem hb
    simp only [List.length_cons]
    omega
structure RV (L : List Int) (S : Sd) : Prop where
  o : okS S
  k : ∀ p ∈ S, p.1 ∈ L ∧ ∀ n, occF n p.2 = true → n ∈ L
  d : (S.map (·.1)).Nodup
  l : L.length ≤ 1000
theorem RV.len {L : List Int} {S : Sd} (h : RV L S) : S.length ≤ 1000 := by
  have := nodup_le h.d (fun n hn => by
    obtain ⟨p, hp, rfl⟩ := List.mem_map.1 hn
    exact (h.k p hp).1)
  rw [List.length_map] at this
  have := h.l
  omega
theorem look_mem' {S : Sd} {n : Int} {t : Ty} (h : look S n = some t) : (n, t) ∈ S := by
  induction S with
  | nil => simp [look] at h
  | cons p l ih =>
    obtain ⟨k, u⟩ := p
    simp only [look] at h
    cases hb : intBeq n k with
    | true => rw [hb] at h; rw [intBeq_iff.1 hb, ← Option.some.inj h]; exact List.mem_cons_self ..
    | false => rw [hb] at h; exact List.mem_cons_of_mem _ (ih h)
theorem look_not {S : Sd} {n : Int} (h : look S n = none) : n ∉ S.map (·.1) := by
  induction S with
  | nil => simp
  | cons p l ih =>
    obtain ⟨k, u⟩ := p
    simp only [look] at h
    cases hb : intBeq n k with
    | true => rw [hb] at h; simp at h
    | false =>
      rw [hb] at h
      simp only [List.map_cons, List.mem_cons, not_or]
      refine ⟨?_, ih h⟩
      rintro rfl
      rw [intBeq_iff.2 rfl] at hb
      cases hb
mutual
theorem ro_in {L : List Int} {S : Sd} (hS : ∀ p ∈ S, ∀ n, occF n p.2 = true → n ∈ L) : ∀ {f : Nat} {t u : Ty}, roF f S t = some u → (∀ n, occF n t = true → n ∈ L) → ∀ n, occF n u = true → n ∈ L
  | 0, _, _, h, _ => by simp [roF] at h
  | f + 1, .mk o v ks, u, h, ht => by
    simp only [roF] at h
    cases hv : natsBeq o varS with
    | true =>
      rw [hv] at h
      simp only [cond_true] at h
      cases hl : look S v with
      | none => rw [hl] at h; simp only [Option.some.injEq] at h; rw [← h]; exact ht
      | some w => rw [hl] at h; exact ro_in hS h (hS (v, w) (look_mem' hl))
    | false =>
      rw [hv] at h
      simp only [cond_false] at h
      cases ha : all0 (roF f S) ks with
      | none => rw [ha] at h; simp at h
      | some us =>
        rw [ha] at h
        simp only [Option.some.injEq] at h
        rw [← h]
        intro n hn
        exact roL_in hS ha (fun n hn => ht n (by simpa [occF, hv] using hn)) n (by simpa [occF, hv] using hn)
theorem roL_in {L : List Int} {S : Sd} (hS : ∀ p ∈ S, ∀ n, occF n p.2 = true → n ∈ L) : ∀ {f : Nat} {l us : List Ty}, all0 (roF f S) l = some us → (∀ n, occL n l = true → n ∈ L) → ∀ n, occL n us = true → n ∈ L
  | f, [], us, h, _ => by simp only [all0, Option.some.injEq] at h; rw [← h]; intro n hn; simp [occL] at hn
  | f, t :: l, us, h, hl => by
    simp only [all0] at h
    cases h1 : roF f S t with
    | none => rw [h1] at h; simp at h
    | some u =>
      rw [h1] at h
      cases h2 : all0 (roF f S) l with
      | none => rw [h2] at h; simp at h
      | some us' =>
        rw [h2] at h
        simp only [Option.some.injEq] at h
        rw [← h]
        intro n hn
        simp only [occL, Bool.or_eq_true] at hn
        rcases hn with hn | hn
        · exact ro_in hS h1 (fun n hn => hl n (by simp [occL, hn])) n hn
        · exact roL_in hS h2 (fun n hn => hl n (by simp [occL, hn])) n hn
end
theorem vars_in {L : List Int} {t : Ty} (he : eachF t = true) (hL : ∀ n, occF n t = true → n ∈ L) (hl : L.length ≤ 1000) : (varsF t []).length ≤ 1000 := by
  have := nodup_le (vars_nodup t [] (by simp)) (fun n hn => hL n (by
    have : hasI (varsF t []) n = true := List.any_eq_true.2 ⟨n, hn, intBeq_iff.2 rfl⟩
    rw [vars_occ n [] he] at this
    simpa [hasI] using this))
  omega
theorem rsay_RV {L : List Int} {S : Sd} (h : RV L S) {n : Int} {t : Ty} (hn : n ∈ L) (hl : look S n = none) (ht : okT t) (hL : ∀ n, occF n t = true → n ∈ L) : RV L (rsayF S n t).2 := by
  obtain ⟨o, v, ks⟩ := t
  rw [rsay_eq ht.1]
  cases ho : occF n (.mk o v ks) with
  | true => exact h
  | false =>
    simp only [cond_false]
    refine ⟨fun p hp => ?_, fun p hp => ?_, ?_, h.l⟩
    · rcases List.mem_append.1 hp with hp | hp
      · exact h.o p hp
      · rw [List.mem_singleton.1 hp]; exact ht
    · rcases List.mem_append.1 hp with hp | hp
      · exact h.k p hp
      · rw [List.mem_singleton.1 hp]; exact ⟨hn, hL⟩
    · rw [List.map_append]
      refine List.nodup_append.2 ⟨h.d, by simp, fun a ha b hb => ?_⟩
      simp at hb
      rw [hb]
      rintro rfl
      exact look_not hl ha
/-! ### The rows of the state -/
def Rows (h : H) (o1 o2 : Own) (S : Sd) : Prop := (o1 = .full ∧ o2 = .full ∧ S = []) ∨ ∃ i1 i2, o1 = .ch i1 ∧ o2 = .ch i2 ∧ h.t.get i1 = some (.chain S.length 3 1) ∧ h.t.get i2 = some (.chain S.length 25 3) ∧ i1 < h.nx ∧ i2 < h.nx
/-- What a step on the state leaves. -/
structure Stp (h h' : H) (s : Nat) (o1 o2 o1' o2' : Own) : Prop where
  nx : h.nx ≤ h'.nx
  fr : ∀ j, j < h.nx → j ≠ s → o1 ≠ .ch j → o2 ≠ .ch j → h'.t.get j = h.t.get j
  n1 : NewO h o1 o1'
  n2 : NewO h o2 o2'
theorem Stp.refl (h : H) (s : Nat) (o1 o2 : Own) : Stp h h s o1 o2 o1 o2 := ⟨Nat.le_refl _, fun _ _ _ _ _ => rfl, .inl rfl, .inl rfl⟩
theorem NewO.trans {h h' : H} {o o' o'' : Own} (hn : h.nx ≤ h'.nx) (a : NewO h o o') (b : NewO h' o' o'') : NewO h o o'' := by
  rcases b with rfl | ⟨id, rfl, hi⟩
  · exact a
  · exact .inr ⟨id, rfl, by omega⟩
theorem NewO.ne {h : H} {o o' : Own} (a : NewO h o o') {j : Nat} (hj : j < h.nx) (hn : o ≠ .ch j) : o' ≠ .ch j := by
  rcases a with rfl | ⟨id, rfl, hi⟩
  · exact hn
  · rintro ⟨⟩; omega
theorem Stp.trans {h h' h'' : H} {s : Nat} {o1 o2 p1 p2 q1 q2 : Own} (a : Stp h h' s o1 o2 p1 p2) (b : Stp h' h'' s p1 p2 q1 q2) : Stp h h'' s o1 o2 q1 q2 where
  nx := Nat.le_trans a.nx b.nx
  fr := fun j hj h1 h2 h3 => by
    have := a.nx
    rw [b.fr j (by omega) h1 (a.n1.ne hj h2) (a.n2.ne hj h3), a.fr j hj h1 h2 h3]
  n1 := a.n1.trans a.nx b.n1
  n2 := a.n2.trans a.nx b.n2
theorem Rows.mono {h h' : H} {o1 o2 : Own} {S : Sd} (a : Rows h o1 o2 S) (b : New h h') : Rows h' o1 o2 S := by
  rcases a with a | ⟨i1, i2, h1, h2, h3, h4, h5, h6⟩
  · exact .inl a
  · have := b.1
    exact .inr ⟨i1, i2, h1, h2, by rw [b.2 i1 h5]; exact h3, by rw [b.2 i2 h6]; exact h4, by omega, by omega⟩
theorem body30 : Try.f30.body = some (.seq (codeAt Try.f30 [0]) (codeAt Try.f30 [1])) := rfl
def Say30 (E : Env) : Prop := ∀ (L : List Int) (s : Nat) (o1 o2 : Own) (S : Sd) (n : Int) (t : Ty) (h : H), RSt h s o1 o2 S → Rows h o1 o2 S → RV L S → okT t → (∀ n, occF n t = true → n ∈ L) →
  ∃ o1' o2' h', evL E 30 [.ptr (some (s, 0)), .int .i64 n, t.av] h = some (.bool (rsayF S n t).1, h') ∧ RSt h' s o1' o2' (rsayF S n t).2 ∧ Rows h' o1' o2' (rsayF S n t).2 ∧ Stp h h' s o1 o2 o1' o2'
theorem say_run {E : Env} (hty : E.ty = env.ty) (hpl : E.plan = env.plan) (hp : E.prim 30 = none) (hfn : E.fns 30 = some Try.f30) (h22 : E.prim 22 = some p22) (h23 : E.prim 23 = some p23b) : Say30 E := by
  intro L s o1 o2 S n t h hs hr hv ht hL
  have hvl := vars_in ht.1 hL hv.l
  have k23 := fun h => c23b h23 (Ty.av_bare 0 t) ht.2 (by omega) h
  have k22 := fun h => c22 h22 .no (varsF t []) n (by omega) h
  have hSl := hv.len
  obtain ⟨o, v, ks⟩ := t
  have hil : (ints (S.map (·.1))).length = S.length := by rw [ints_len, List.length_map]
  have his := ints_sizes (S.map (·.1))
  have htl : (Ty.avs (S.map (·.2))).length = S.length := by rw [avs_len, List.length_map]
  have hts := avs_sizes (S.map (·.2))
  have cs := hs.cs
  have hsn := hs.hs
  have hsx : s ≠ h.nx := by omega
  have hsx2 : h.nx ≠ s := by omega
  have hev : natsBeq o varS = natsBeq o [118, 97, 114] := rfl
  rw [show (ints (varsF (.mk o v ks) [])) = (varsF (.mk o v ks) []).map (.int .i64) from rfl] at k23
  simp only [Ty.av] at k23 ⊢
  rw [evL_fn E hp hfn body30 _ _ rfl]
  simp only [rsayF]
  cases hh : hasI (varsF (.mk o v ks) []) n with
  | true =>
    rw [hh] at k22
    simp only [codeAt, sub, Try.f30]
    simp [cdL_seq, cdL_region, cdL_drawn, cdL_cond, cdL_block, cdL_skip, cdL_label, cdL_exit, cdL_ret, endL, evSeq, evOne, evAct, evOp, opKind, evPure, evRead, evNew, evWrite, evSlice, natOf, optVal, readAt, AV.cells, wantedA, putTm, val, allVals, evBin, evInt, evStr, evAppend, denseFrom, sizesAre, onesIn, evPlan, recheck, AV.beq_refl, H.new, H.put, fillF, fillAt, allOne, AV.one, setArgs, evRes, resOf, ofVal, ofVal0, blt_dec, ble_dec, beq_dec, T.get_set_ite, T.get_e, isShift, ikBeq, ty_0, ty_1, ty_2, ty_3, ty_4, ty_5, ty_6, ty_7, ty_8, ty_9, ty_10, ty_11, ty_12, ty_13, ty_14, ty_15, ty_16, ty_17, ty_18, ty_19, ty_20, ty_21, ty_22, ty_23, ty_24, ty_25, ty_26, ty_27, ty_28, ty_29, ty_30, ty_31, ty_32, ty_33, ty_34, ty_35, ty_36, ty_37, ty_38, ty_39, ty_40, ty_41, ty_42, ty_43, ty_44, ty_45, ty_46, ty_47, ty_48, ty_49, ty_50, ty_51, ty_52, ty_53, ty_54, ty_55, ty_56, ty_57, ty_58, ty_59, ty_60, ty_61, ty_62, ty_63, ty_64, ty_65, ty_66, ty_67, ty_68, ty_69, ty_70, ty_71, ty_72, ty_73, ty_74, ty_75, ty_76, ty_77, ty_78, pl_3_7, pl_3_12, pl_3_14, pl_3_15, pl_3_17, pl_4_12, pl_5_7, pl_6_16, pl_6_21, pl_7_3, pl_7_7, pl_8_5, pl_12_3, pl_13_1, pl_13_11, pl_15_6, pl_16_8, pl_17_4, pl_19_5, pl_19_12, pl_24_5, pl_24_12, pl_26_1, pl_27_2, pl_28_3, pl_30_3, pl_33_2, hty, hpl, k23, k22, hev, bytesOf]
    have hN : New h ⟨h.t.set h.nx (.cells [.str o, .int .i64 v, .sl .no (Ty.avs ks)]), h.nx + 1⟩ := ⟨by simp, fun j hj => by simp only [T.get_set_ite]; rw [if_neg (by omega)]⟩
    exact ⟨o1, o2, hs.mono hN, hr.mono hN, hN.1, fun j hj _ _ _ => hN.2 j hj, .inl rfl, .inl rfl⟩
  | false =>
    rw [hh] at k22
    have eap : ints (S.map (·.1)) ++ [.int .i64 n] = ints ((S ++ [(n, Ty.mk o v ks)]).map (·.1)) := by simp [ints]
    have eat : Ty.avs (S.map (·.2)) ++ [.agg [.str o, .int .i64 v, .sl .no (Ty.avs ks)]] = Ty.avs ((S ++ [(n, Ty.mk o v ks)]).map (·.2)) := by
      rw [List.map_append]; exact avs_add _ (.mk o v ks)
    have hb1 : (S.length + 1) * 8 ≤ 140737488355328 := by omega
    have hb2 : (S.length + 1) * 48 ≤ 140737488355328 := by omega
    rcases hr with ⟨rfl, rfl, rfl⟩ | ⟨i1, i2, rfl, rfl, g1, g2, l1, l2⟩
    · have hs1 : s ≠ h.nx + 1 := by omega
      have hs2 : s ≠ h.nx + 1 + 1 := by omega
      have hs1' : h.nx + 1 ≠ s := by omega
      have hs2' : h.nx + 1 + 1 ≠ s := by omega
      simp only [List.map_nil, ints, Ty.avs] at cs
      simp only [codeAt, sub, Try.f30]
      simp [cdL_seq, cdL_region, cdL_drawn, cdL_cond, cdL_block, cdL_skip, cdL_label, cdL_exit, cdL_ret, endL, evSeq, evOne, evAct, evOp, opKind, evPure, evRead, evNew, evWrite, evSlice, natOf, optVal, readAt, AV.cells, wantedA, putTm, val, allVals, evBin, evInt, evStr, evAppend, denseFrom, sizesAre, onesIn, evPlan, recheck, AV.beq_refl, H.new, H.put, fillF, fillAt, allOne, AV.one, setArgs, evRes, resOf, ofVal, ofVal0, blt_dec, ble_dec, beq_dec, T.get_set_ite, T.get_e, isShift, ikBeq, ty_0, ty_1, ty_2, ty_3, ty_4, ty_5, ty_6, ty_7, ty_8, ty_9, ty_10, ty_11, ty_12, ty_13, ty_14, ty_15, ty_16, ty_17, ty_18, ty_19, ty_20, ty_21, ty_22, ty_23, ty_24, ty_25, ty_26, ty_27, ty_28, ty_29, ty_30, ty_31, ty_32, ty_33, ty_34, ty_35, ty_36, ty_37, ty_38, ty_39, ty_40, ty_41, ty_42, ty_43, ty_44, ty_45, ty_46, ty_47, ty_48, ty_49, ty_50, ty_51, ty_52, ty_53, ty_54, ty_55, ty_56, ty_57, ty_58, ty_59, ty_60, ty_61, ty_62, ty_63, ty_64, ty_65, ty_66, ty_67, ty_68, ty_69, ty_70, ty_71, ty_72, ty_73, ty_74, ty_75, ty_76, ty_77, ty_78, pl_3_7, pl_3_12, pl_3_14, pl_3_15, pl_3_17, pl_4_12, pl_5_7, pl_6_16, pl_6_21, pl_7_3, pl_7_7, pl_8_5, pl_12_3, pl_13_1, pl_13_11, pl_15_6, pl_16_8, pl_17_4, pl_19_5, pl_19_12, pl_24_5, pl_24_12, pl_26_1, pl_27_2, pl_28_3, pl_30_3, pl_33_2, hty, hpl, k23, k22, hev, bytesOf, cs, hsx, hsx2, hs1, hs2, hs1', hs2']
      refine ⟨.ch (h.nx + 1), .ch (h.nx + 1 + 1), ⟨by simp [T.get_set_ite, ints, Ty.avs, Ty.av], by simp; omega⟩, .inr ⟨_, _, rfl, rfl, by simp [T.get_set_ite, hs1'], by simp [T.get_set_ite, hs2'], by simp, by simp⟩, ⟨by simp; omega, fun j hj h1 _ _ => ?_, .inr ⟨_, rfl, by omega⟩, .inr ⟨_, rfl, by omega⟩⟩⟩
      simp only [T.get_set_ite]
      repeat rw [if_neg (by omega)]
    · have hs1 : s ≠ i1 := by rintro rfl; rw [cs] at g1; cases g1
      have hs2 : s ≠ i2 := by rintro rfl; rw [cs] at g2; cases g2
      have h12 : i1 ≠ i2 := by rintro rfl; rw [g1] at g2; simp at g2
      have n1 : i1 ≠ h.nx := by omega
      have n2 : i2 ≠ h.nx := by omega
      simp only [codeAt, sub, Try.f30]
      simp [cdL_seq, cdL_region, cdL_drawn, cdL_cond, cdL_block, cdL_skip, cdL_label, cdL_exit, cdL_ret, endL, evSeq, evOne, evAct, evOp, opKind, evPure, evRead, evNew, evWrite, evSlice, natOf, optVal, readAt, AV.cells, wantedA, putTm, val, allVals, evBin, evInt, evStr, evAppend, denseFrom, sizesAre, onesIn, evPlan, recheck, AV.beq_refl, H.new, H.put, fillF, fillAt, allOne, AV.one, setArgs, evRes, resOf, ofVal, ofVal0, blt_dec, ble_dec, beq_dec, T.get_set_ite, T.get_e, isShift, ikBeq, ty_0, ty_1, ty_2, ty_3, ty_4, ty_5, ty_6, ty_7, ty_8, ty_9, ty_10, ty_11, ty_12, ty_13, ty_14, ty_15, ty_16, ty_17, ty_18, ty_19, ty_20, ty_21, ty_22, ty_23, ty_24, ty_25, ty_26, ty_27, ty_28, ty_29, ty_30, ty_31, ty_32, ty_33, ty_34, ty_35, ty_36, ty_37, ty_38, ty_39, ty_40, ty_41, ty_42, ty_43, ty_44, ty_45, ty_46, ty_47, ty_48, ty_49, ty_50, ty_51, ty_52, ty_53, ty_54, ty_55, ty_56, ty_57, ty_58, ty_59, ty_60, ty_61, ty_62, ty_63, ty_64, ty_65, ty_66, ty_67, ty_68, ty_69, ty_70, ty_71, ty_72, ty_73, ty_74, ty_75, ty_76, ty_77, ty_78, pl_3_7, pl_3_12, pl_3_14, pl_3_15, pl_3_17, pl_4_12, pl_5_7, pl_6_16, pl_6_21, pl_7_3, pl_7_7, pl_8_5, pl_12_3, pl_13_1, pl_13_11, pl_15_6, pl_16_8, pl_17_4, pl_19_5, pl_19_12, pl_24_5, pl_24_12, pl_26_1, pl_27_2, pl_28_3, pl_30_3, pl_33_2, nq2, nq3, nq4, nq5, nr2, nr3, nr4, nr5, hty, hpl, k23, k22, hev, bytesOf, cs, hsx, hsx2, hs1, hs2, hs1.symm, hs2.symm, h12, h12.symm, n1, n2, n1.symm, n2.symm, g1, g2, hil, his, htl, hts, hb1, hb2, eap, eat]
      refine ⟨.ch i1, .ch i2, ⟨by simp [T.get_set_ite], by simp; omega⟩, .inr ⟨_, _, rfl, rfl, by simp [T.get_set_ite, hs1.symm, h12], by simp [T.get_set_ite, hs2.symm], by simp; omega, by simp; omega⟩, ⟨by simp, fun j hj h1 h2 h3 => ?_, .inl rfl, .inl rfl⟩⟩
      have e1 : j ≠ i1 := fun e => h2 (by rw [e])
      have e2 : j ≠ i2 := fun e => h3 (by rw [e])
      simp only [T.get_set_ite]
      rw [if_neg h1, if_neg h1, if_neg e2, if_neg e1, if_neg (by omega)]
end Go.Proofs.Ytiifjjcoepgobaa.Env
/- The reference's Unify. -/
set_option autoImplicit false
set_option maxRecDepth 100000
set_option linter.unusedSimpArgs false
set_option linter.unusedVariables false
set_option linter.unusedSectionVars false
namespace Go.Proofs.Ytiifjjcoepgobaa.Env
open Go.Ev

noncomputable def b13_0 : Code := loopOf Try.f13 0
theorem body13 : Try.f13.body = some (.seq (codeAt Try.f13 [0]) (.seq (codeAt Try.f13 [1, 0]) (.seq (codeAt Try.f13 [1, 1, 0]) (.seq (codeAt Try.f13 [1, 1, 1, 0]) (.seq (codeAt Try.f13 [1, 1, 1, 1, 0]) (.seq (.seq (codeAt Try.f13 [1, 1, 1, 1, 1, 0, 0]) (.block 0 (.loop b13_0))) (codeAt Try.f13 [1, 1, 1, 1, 1, 1]))))))) := rfl
theorem Rows.ne {h : H} {o1 o2 : Own} {S : Sd} (a : Rows h o1 o2 S) {j : Nat} {cs : List AV} (hj : h.t.get j = some (.cells cs)) : o1 ≠ .ch j ∧ o2 ≠ .ch j := by
  rcases a with ⟨rfl, rfl, _⟩ | ⟨i1, i2, rfl, rfl, h1, h2, _, _⟩
  · exact ⟨by simp, by simp⟩
  · constructor
    · rintro ⟨⟩; rw [hj] at h1; cases h1
    · rintro ⟨⟩; rw [hj] at h2; cases h2
theorem Stp.cell {h h' : H} {s : Nat} {o1 o2 o1' o2' : Own} {S : Sd} (a : Stp h h' s o1 o2 o1' o2') (r : Rows h o1 o2 S) {j : Nat} {cs : List AV} (hj : h.t.get j = some (.cells cs)) (hl : j < h.nx) (hs : j ≠ s) : h'.t.get j = some (.cells cs) := by
  obtain ⟨h1, h2⟩ := r.ne hj
  rw [a.fr j hl hs h1 h2, hj]
theorem okS.good {S : Sd} (h : okS S) : goodS S := fun p hp => each_good (h p hp).1
theorem okL.in {L : List Int} {ks : List Ty} (h : ∀ n, occL n ks = true → n ∈ L) {t : Ty} (ht : t ∈ ks) : ∀ n, occF n t = true → n ∈ L := by
  intro n hn
  refine h n ?_
  clear h
  induction ks with
  | nil => simp at ht
  | cons k l ih =>
    simp only [occL, Bool.or_eq_true]
    rcases List.mem_cons.1 ht with rfl | ht
    · exact .inl hn
    · exact .inr (ih ht)
def Uni13 (E : Env) (d : Nat) : Prop := ∀ (L : List Int) (s : Nat) (o1 o2 : Own) (S S' : Sd) (a b : Ty) (r : Bool) (h : H), RSt h s o1 o2 S → Rows h o1 o2 S → RV L S → okT a → okT b → (∀ n, occF n a = true → n ∈ L) → (∀ n, occF n b = true → n ∈ L) → ruF d S a b = some (r, S') →
  ∃ o1' o2' h', evL E 13 [.ptr (some (s, 0)), a.av, b.av] h = some (.bool r, h') ∧ RSt h' s o1' o2' S' ∧ Rows h' o1' o2' S' ∧ RV L S' ∧ Stp h h' s o1 o2 o1' o2'
theorem loop13 {E : Env} (hty : E.ty = env.ty) (hpl : E.plan = env.plan) {L : List Int} {s b4 b5 d : Nat} {oa ob : List Nat} {na nb : Int} {us ws : List Ty} (hlen : us.length = ws.length) (hl : us.length ≤ 1000000) (hou : okL us) (how : okL ws) (hLu : ∀ n, occL n us = true → n ∈ L) (hLw : ∀ n, occL n ws = true → n ∈ L) (hc : Uni13 E d) (h4s : b4 ≠ s) (h5s : b5 ≠ s) {ok : Bool} {S' : Sd} :
    ∀ (l r : List Ty) (i : Nat) (S : Sd) (o1 o2 : Own) {tm : Tm} {h : H} {x : Option (Ex × Tm × H)}, cdL E 13 64 (.loop b13_0) tm h = x → l = us.drop i → r = ws.drop i → i ≤ us.length → RSt h s o1 o2 S → Rows h o1 o2 S → RV L S →
    h.t.get b4 = some (.cells [.str oa, .int .i64 na, .sl .no (Ty.avs us)]) → h.t.get b5 = some (.cells [.str ob, .int .i64 nb, .sl .no (Ty.avs ws)]) → b4 < h.nx → b5 < h.nx → eqF (ruF d) S l r = some (ok, S') →
    tm.get 0 = some (.ptr (some (s, 0))) → tm.get 4 = some (.ptr (some (b4, 0))) → tm.get 5 = some (.ptr (some (b5, 0))) → tm.get 7 = some (.int .i64 ↑i) →
    ∃ tm' h' o1' o2', ((ok = true ∧ x = some (.exit 0, tm', h')) ∨ (ok = false ∧ x = some (.ret, tm', h') ∧ tm'.get 6 = some (.bool false))) ∧ RSt h' s o1' o2' S' ∧ Rows h' o1' o2' S' ∧ RV L S' ∧ Stp h h' s o1 o2 o1' o2'
  | [], r, i, S, o1, o2, tm, h, x, hx, hd, hdr, hi, hs, hr, hv, z4, z5, n4, n5, he, g0, g4, g5, g7 => by
    have hlen' := dnil hd hi
    have hkl := avs_len us
    rw [hlen'] at hkl
    simp only [eqF, Option.some.injEq, Prod.mk.injEq] at he
    obtain ⟨rfl, rfl⟩ := he
    obtain ⟨R, hR, hx⟩ := loop_step hx
    simp [b13_0, loopOf, Try.f13, loops, cdL_seq, cdL_region, cdL_drawn, cdL_cond, cdL_block, cdL_skip, cdL_label, cdL_exit, cdL_ret, endL, evSeq, evOne, evAct, evOp, opKind, evPure, evRead, evNew, evWrite, evSlice, natOf, optVal, readAt, AV.cells, wantedA, putTm, val, allVals, evBin, evInt, evStr, evAppend, denseFrom, sizesAre, onesIn, evPlan, recheck, AV.beq_refl, H.new, H.put, fillF, fillAt, allOne, AV.one, setArgs, evRes, resOf, ofVal, ofVal0, blt_dec, ble_dec, beq_dec, T.get_set_ite, T.get_e, isShift, ikBeq, ty_0, ty_1, ty_2, ty_3, ty_4, ty_5, ty_6, ty_7, ty_8, ty_9, ty_10, ty_11, ty_12, ty_13, ty_14, ty_15, ty_16, ty_17, ty_18, ty_19, ty_20, ty_21, ty_22, ty_23, ty_24, ty_25, ty_26, ty_27, ty_28, ty_29, ty_30, ty_31, ty_32, ty_33, ty_34, ty_35, ty_36, ty_37, ty_38, ty_39, ty_40, ty_41, ty_42, ty_43, ty_44, ty_45, ty_46, ty_47, ty_48, ty_49, ty_50, ty_51, ty_52, ty_53, ty_54, ty_55, ty_56, ty_57, ty_58, ty_59, ty_60, ty_61, ty_62, ty_63, ty_64, ty_65, ty_66, ty_67, ty_68, ty_69, ty_70, ty_71, ty_72, ty_73, ty_74, ty_75, ty_76, ty_77, ty_78, pl_3_7, pl_3_12, pl_3_14, pl_3_15, pl_3_17, pl_4_12, pl_5_7, pl_6_16, pl_6_21, pl_7_3, pl_7_7, pl_8_5, pl_12_3, pl_13_1, pl_13_11, pl_15_6, pl_16_8, pl_17_4, pl_19_5, pl_19_12, pl_24_5, pl_24_12, pl_26_1, pl_27_2, pl_28_3, pl_30_3, pl_33_2, lp, hty, hpl, g0, g4, g5, g7, z4, hkl, ltI_f] at hx
    exact ⟨_, h, o1, o2, .inl ⟨rfl, hx.symm⟩, hs, hr, hv, Stp.refl h s o1 o2⟩
  | t :: l, r, i, S, o1, o2, tm, h, x, hx, hd, hdr, hi, hs, hr, hv, z4, z5, n4, n5, he, g0, g4, g5, g7 => by
    obtain ⟨hlt, hct, hd'⟩ := dcons hd
    cases r with
    | nil => have := dnil hdr (by omega); omega
    | cons k r =>
      obtain ⟨_, hck, hdr'⟩ := dcons hdr
      have hkl := avs_len us
      have hat := avs_get hct
      have hak := avs_get hck
      have htm := List.mem_of_getElem? hct
      have hkm := List.mem_of_getElem? hck
      have hlt' := ltI_t hlt
      have hw := wr_succ (i := i) (by omega)
      simp only [eqF] at he
      cases hq : ruF d S t k with
      | none => rw [hq] at he; simp at he
      | some p =>
        obtain ⟨b, S1⟩ := p
        rw [hq] at he
        obtain ⟨p1, p2, h1, e1, s1, r1, v1, st1⟩ := hc L s o1 o2 S S1 t k b h hs hr hv (hou t htm) (how k hkm) (okL.in hLu htm) (okL.in hLw hkm) hq
        obtain ⟨t0, t1, t2, ht⟩ := av_cells t
        obtain ⟨k0, k1, k2, hk⟩ := av_cells k
        rw [ht] at hat e1
        rw [hk] at hak e1
        obtain ⟨R, hR, hx⟩ := loop_step hx
        cases b with
        | false =>
          simp only [Option.some.injEq, Prod.mk.injEq] at he
          obtain ⟨rfl, rfl⟩ := he
          simp [b13_0, loopOf, Try.f13, loops, cdL_seq, cdL_region, cdL_drawn, cdL_cond, cdL_block, cdL_skip, cdL_label, cdL_exit, cdL_ret, endL, evSeq, evOne, evAct, evOp, opKind, evPure, evRead, evNew, evWrite, evSlice, natOf, optVal, readAt, AV.cells, wantedA, putTm, val, allVals, evBin, evInt, evStr, evAppend, denseFrom, sizesAre, onesIn, evPlan, recheck, AV.beq_refl, H.new, H.put, fillF, fillAt, allOne, AV.one, setArgs, evRes, resOf, ofVal, ofVal0, blt_dec, ble_dec, beq_dec, T.get_set_ite, T.get_e, isShift, ikBeq, ty_0, ty_1, ty_2, ty_3, ty_4, ty_5, ty_6, ty_7, ty_8, ty_9, ty_10, ty_11, ty_12, ty_13, ty_14, ty_15, ty_16, ty_17, ty_18, ty_19, ty_20, ty_21, ty_22, ty_23, ty_24, ty_25, ty_26, ty_27, ty_28, ty_29, ty_30, ty_31, ty_32, ty_33, ty_34, ty_35, ty_36, ty_37, ty_38, ty_39, ty_40, ty_41, ty_42, ty_43, ty_44, ty_45, ty_46, ty_47, ty_48, ty_49, ty_50, ty_51, ty_52, ty_53, ty_54, ty_55, ty_56, ty_57, ty_58, ty_59, ty_60, ty_61, ty_62, ty_63, ty_64, ty_65, ty_66, ty_67, ty_68, ty_69, ty_70, ty_71, ty_72, ty_73, ty_74, ty_75, ty_76, ty_77, ty_78, pl_3_7, pl_3_12, pl_3_14, pl_3_15, pl_3_17, pl_4_12, pl_5_7, pl_6_16, pl_6_21, pl_7_3, pl_7_7, pl_8_5, pl_12_3, pl_13_1, pl_13_11, pl_15_6, pl_16_8, pl_17_4, pl_19_5, pl_19_12, pl_24_5, pl_24_12, pl_26_1, pl_27_2, pl_28_3, pl_30_3, pl_33_2, lp, hty, hpl, g0, g4, g5, g7, z4, z5, hkl, hlt', hat, hak, e1] at hx
          exact ⟨_, h1, p1, p2, .inr ⟨rfl, hx.symm, by simp [T.get_set_ite]⟩, s1, r1, v1, st1⟩
        | true =>
          simp only at he
          simp [b13_0, loopOf, Try.f13, loops, cdL_seq, cdL_region, cdL_drawn, cdL_cond, cdL_block, cdL_skip, cdL_label, cdL_exit, cdL_ret, endL, evSeq, evOne, evAct, evOp, opKind, evPure, evRead, evNew, evWrite, evSlice, natOf, optVal, readAt, AV.cells, wantedA, putTm, val, allVals, evBin, evInt, evStr, evAppend, denseFrom, sizesAre, onesIn, evPlan, recheck, AV.beq_refl, H.new, H.put, fillF, fillAt, allOne, AV.one, setArgs, evRes, resOf, ofVal, ofVal0, blt_dec, ble_dec, beq_dec, T.get_set_ite, T.get_e, isShift, ikBeq, ty_0, ty_1, ty_2, ty_3, ty_4, ty_5, ty_6, ty_7, ty_8, ty_9, ty_10, ty_11, ty_12, ty_13, ty_14, ty_15, ty_16, ty_17, ty_18, ty_19, ty_20, ty_21, ty_22, ty_23, ty_24, ty_25, ty_26, ty_27, ty_28, ty_29, ty_30, ty_31, ty_32, ty_33, ty_34, ty_35, ty_36, ty_37, ty_38, ty_39, ty_40, ty_41, ty_42, ty_43, ty_44, ty_45, ty_46, ty_47, ty_48, ty_49, ty_50, ty_51, ty_52, ty_53, ty_54, ty_55, ty_56, ty_57, ty_58, ty_59, ty_60, ty_61, ty_62, ty_63, ty_64, ty_65, ty_66, ty_67, ty_68, ty_69, ty_70, ty_71, ty_72, ty_73, ty_74, ty_75, ty_76, ty_77, ty_78, pl_3_7, pl_3_12, pl_3_14, pl_3_15, pl_3_17, pl_4_12, pl_5_7, pl_6_16, pl_6_21, pl_7_3, pl_7_7, pl_8_5, pl_12_3, pl_13_1, pl_13_11, pl_15_6, pl_16_8, pl_17_4, pl_19_5, pl_19_12, pl_24_5, pl_24_12, pl_26_1, pl_27_2, pl_28_3, pl_30_3, pl_33_2, lp, hty, hpl, g0, g4, g5, g7, z4, z5, hkl, hlt', hat, hak, e1, hw] at hx
          rw [hR] at hx
          have hnx := st1.nx
          obtain ⟨tm', h', q1, q2, c, s2, r2, v2, st2⟩ := loop13 hty hpl (oa := oa) (ob := ob) (na := na) (nb := nb) hlen hl hou how hLu hLw hc h4s h5s l r (i + 1) S1 p1 p2 hx hd' hdr' hlt s1 r1 v1 (st1.cell hr z4 n4 h4s) (st1.cell hr z5 n5 h5s) (by omega) (by omega) he (by simp [T.get_set_ite, g0]) (by simp [T.get_set_ite, g4]) (by simp [T.get_set_ite, g5]) (by simp [T.get_set_ite])
          exact ⟨tm', h', q1, q2, c, s2, r2, v2, st1.trans st2⟩
theorem uni13_run {E : Env} (hty : E.ty = env.ty) (hpl : E.plan = env.plan) (hp : E.prim 13 = none) (hfn : E.fns 13 = some Try.f13) (h19 : E.prim 19 = some p19) (h30 : Say30 E) : ∀ d, Uni13 E d
  | 0 => fun L s o1 o2 S S' a b r h _ _ _ _ _ _ _ he => by simp [ruF] at he
  | d + 1 => fun L s o1 o2 S S' a b r h hs hr hv ha hb hLa hLb he => by
    have hc := uni13_run hty hpl hp hfn h19 h30 d
    simp only [ruF] at he
    cases hu : roF d S a with
    | none => rw [hu] at he; simp at he
    | some u =>
      cases hw : roF d S b with
      | none => rw [hu, hw] at he; obtain ⟨_, _, _⟩ := u; simp at he
      | some w =>
        have ou := ro_ok hv.o hu ha
        have ow := ro_ok hv.o hw hb
        have hLu := ro_in (L := L) (fun p hp => (hv.k p hp).2) hu hLa
        have hLw := ro_in (L := L) (fun p hp => (hv.k p hp).2) hw hLb
        have hbu := fun n h => ro_unb n hu h
        have hbw := fun n h => ro_unb n hw h
        have hSl := hv.len
        have k19 := fun t u h (h1 : okT t) (h2 : RSt h s o1 o2 S) (h3 : Ro S t u) => c19 h19 (Ty.av_bare 0 t) (each_good h1.1) hv.o.good (by omega) h2 h3
        obtain ⟨oa, na, us⟩ := u
        obtain ⟨ob, nb, ws⟩ := w
        rw [hu, hw] at he
        simp only at he
        have hN1 : New h ⟨(h.t.set h.nx (.cells a.av.cells)).set (h.nx + 1) (.cells b.av.cells), h.nx + 1 + 1⟩ := ⟨by simp; omega, fun j hj => by simp only [T.get_set_ite]; rw [if_neg (by omega), if_neg (by omega)]⟩
        have e1 := k19 a _ _ ha (hs.mono hN1) ⟨d, hu⟩
        have e2 := k19 b _ _ hb (hs.mono hN1) ⟨d, hw⟩
        obtain ⟨a0, a1, a2, hae⟩ := av_cells a
        obtain ⟨b0, b1, b2, hbe⟩ := av_cells b
        rw [hae, hbe] at e1 e2 hN1 ⊢
        simp only [AV.cells] at e1 e2 hN1
        have hn01 : h.nx ≠ h.nx + 1 := by omega
        have hN2 : New h ⟨(((h.t.set h.nx (.cells [.str a0, .int .i64 a1, .sl .no a2])).set (h.nx + 1) (.cells [.str b0, .int .i64 b1, .sl .no b2])).set h.nx (.cells [.str oa, .int .i64 na, .sl .no (Ty.avs us)])).set (h.nx + 1) (.cells [.str ob, .int .i64 nb, .sl .no (Ty.avs ws)]), h.nx + 1 + 1⟩ := ⟨by simp; omega, fun j hj => by simp only [T.get_set_ite]; repeat rw [if_neg (by omega)]⟩
        have hva : natsBeq oa varS = natsBeq oa [118, 97, 114] := rfl
        have hvb : natsBeq ob varS = natsBeq ob [118, 97, 114] := rfl
        have say := h30 L s o1 o2 S
        have fin : ∀ {h2 h' : H} {p1 p2 : Own}, New h h2 → Stp h2 h' s o1 o2 p1 p2 → Stp h h' s o1 o2 p1 p2 := fun hn st => (⟨hn.1, fun j hj _ _ _ => hn.2 j hj, .inl rfl, .inl rfl⟩ : Stp h _ s o1 o2 o1 o2).trans st
        simp only [Ty.av] at e1 e2
        rw [evL_fn E hp hfn body13 _ _ rfl]
        simp only [codeAt, sub, Try.f13]
        cases c1 : natsBeq oa varS with
        | true =>
          rw [c1] at he
          simp only [cond_true, Option.some.injEq] at he
          have hm : na ∈ L := hLu na (by simp [occF, c1, intBeq_iff.2 (rfl : na = na)])
          have hlk := hbu na (by simp [occF, c1, intBeq_iff.2 (rfl : na = na)])
          obtain ⟨p1, p2, h', e3, s3, r3, st3⟩ := say na (.mk ob nb ws) _ (hs.mono hN2) (hr.mono hN2) hv ow hLw
          have hv3 := rsay_RV hv hm hlk ow hLw
          rw [he] at e3 s3 r3 hv3
          rw [hva] at c1
          simp only [Ty.av] at e3
          simp [cdL_seq, cdL_region, cdL_drawn, cdL_cond, cdL_block, cdL_skip, cdL_label, cdL_exit, cdL_ret, endL, evSeq, evOne, evAct, evOp, opKind, evPure, evRead, evNew, evWrite, evSlice, natOf, optVal, readAt, AV.cells, wantedA, putTm, val, allVals, evBin, evInt, evStr, evAppend, denseFrom, sizesAre, onesIn, evPlan, recheck, AV.beq_refl, H.new, H.put, fillF, fillAt, allOne, AV.one, setArgs, evRes, resOf, ofVal, ofVal0, blt_dec, ble_dec, beq_dec, T.get_set_ite, T.get_e, isShift, ikBeq, ty_0, ty_1, ty_2, ty_3, ty_4, ty_5, ty_6, ty_7, ty_8, ty_9, ty_10, ty_11, ty_12, ty_13, ty_14, ty_15, ty_16, ty_17, ty_18, ty_19, ty_20, ty_21, ty_22, ty_23, ty_24, ty_25, ty_26, ty_27, ty_28, ty_29, ty_30, ty_31, ty_32, ty_33, ty_34, ty_35, ty_36, ty_37, ty_38, ty_39, ty_40, ty_41, ty_42, ty_43, ty_44, ty_45, ty_46, ty_47, ty_48, ty_49, ty_50, ty_51, ty_52, ty_53, ty_54, ty_55, ty_56, ty_57, ty_58, ty_59, ty_60, ty_61, ty_62, ty_63, ty_64, ty_65, ty_66, ty_67, ty_68, ty_69, ty_70, ty_71, ty_72, ty_73, ty_74, ty_75, ty_76, ty_77, ty_78, pl_3_7, pl_3_12, pl_3_14, pl_3_15, pl_3_17, pl_4_12, pl_5_7, pl_6_16, pl_6_21, pl_7_3, pl_7_7, pl_8_5, pl_12_3, pl_13_1, pl_13_11, pl_15_6, pl_16_8, pl_17_4, pl_19_5, pl_19_12, pl_24_5, pl_24_12, pl_26_1, pl_27_2, pl_28_3, pl_30_3, pl_33_2, nq2, nq3, nq4, nq5, nr2, nr3, nr4, nr5, hty, hpl, e1, e2, e3, c1, bytesOf, hn01]
          exact ⟨p1, p2, s3, r3, hv3, fin hN2 st3⟩
        | false =>
          rw [c1] at he
          simp only [cond_false] at he
          cases c2 : natsBeq ob varS with
          | true =>
            rw [c2] at he
            simp only [cond_true, Option.some.injEq] at he
            have hm : nb ∈ L := hLw nb (by simp [occF, c2, intBeq_iff.2 (rfl : nb = nb)])
            have hlk := hbw nb (by simp [occF, c2, intBeq_iff.2 (rfl : nb = nb)])
            obtain ⟨p1, p2, h', e3, s3, r3, st3⟩ := say nb (.mk oa na us) _ (hs.mono hN2) (hr.mono hN2) hv ou hLu
            have hv3 := rsay_RV hv hm hlk ou hLu
            rw [he] at e3 s3 r3 hv3
            rw [hva] at c1
            rw [hvb] at c2
            simp only [Ty.av] at e3
            simp [cdL_seq, cdL_region, cdL_drawn, cdL_cond, cdL_block, cdL_skip, cdL_label, cdL_exit, cdL_ret, endL, evSeq, evOne, evAct, evOp, opKind, evPure, evRead, evNew, evWrite, evSlice, natOf, optVal, readAt, AV.cells, wantedA, putTm, val, allVals, evBin, evInt, evStr, evAppend, denseFrom, sizesAre, onesIn, evPlan, recheck, AV.beq_refl, H.new, H.put, fillF, fillAt, allOne, AV.one, setArgs, evRes, resOf, ofVal, ofVal0, blt_dec, ble_dec, beq_dec, T.get_set_ite, T.get_e, isShift, ikBeq, ty_0, ty_1, ty_2, ty_3, ty_4, ty_5, ty_6, ty_7, ty_8, ty_9, ty_10, ty_11, ty_12, ty_13, ty_14, ty_15, ty_16, ty_17, ty_18, ty_19, ty_20, ty_21, ty_22, ty_23, ty_24, ty_25, ty_26, ty_27, ty_28, ty_29, ty_30, ty_31, ty_32, ty_33, ty_34, ty_35, ty_36, ty_37, ty_38, ty_39, ty_40, ty_41, ty_42, ty_43, ty_44, ty_45, ty_46, ty_47, ty_48, ty_49, ty_50, ty_51, ty_52, ty_53, ty_54, ty_55, ty_56, ty_57, ty_58, ty_59, ty_60, ty_61, ty_62, ty_63, ty_64, ty_65, ty_66, ty_67, ty_68, ty_69, ty_70, ty_71, ty_72, ty_73, ty_74, ty_75, ty_76, ty_77, ty_78, pl_3_7, pl_3_12, pl_3_14, pl_3_15, pl_3_17, pl_4_12, pl_5_7, pl_6_16, pl_6_21, pl_7_3, pl_7_7, pl_8_5, pl_12_3, pl_13_1, pl_13_11, pl_15_6, pl_16_8, pl_17_4, pl_19_5, pl_19_12, pl_24_5, pl_24_12, pl_26_1, pl_27_2, pl_28_3, pl_30_3, pl_33_2, nq2, nq3, nq4, nq5, nr2, nr3, nr4, nr5, hty, hpl, e1, e2, e3, c1, c2, bytesOf, hn01]
            exact ⟨p1, p2, s3, r3, hv3, fin hN2 st3⟩
          | false =>
            rw [c2] at he
            simp only [cond_false] at he
            rw [hva] at c1
            rw [hvb] at c2
            have hlu := avs_len us
            have hlw := avs_len ws
            have st0 : Stp h _ s o1 o2 o1 o2 := fin hN2 (Stp.refl _ s o1 o2)
            cases c3 : natsBeq oa ob with
            | false =>
              rw [c3] at he
              simp only [cond_false, Option.some.injEq, Prod.mk.injEq] at he
              obtain ⟨rfl, rfl⟩ := he
              simp [cdL_seq, cdL_region, cdL_drawn, cdL_cond, cdL_block, cdL_skip, cdL_label, cdL_exit, cdL_ret, endL, evSeq, evOne, evAct, evOp, opKind, evPure, evRead, evNew, evWrite, evSlice, natOf, optVal, readAt, AV.cells, wantedA, putTm, val, allVals, evBin, evInt, evStr, evAppend, denseFrom, sizesAre, onesIn, evPlan, recheck, AV.beq_refl, H.new, H.put, fillF, fillAt, allOne, AV.one, setArgs, evRes, resOf, ofVal, ofVal0, blt_dec, ble_dec, beq_dec, T.get_set_ite, T.get_e, isShift, ikBeq, ty_0, ty_1, ty_2, ty_3, ty_4, ty_5, ty_6, ty_7, ty_8, ty_9, ty_10, ty_11, ty_12, ty_13, ty_14, ty_15, ty_16, ty_17, ty_18, ty_19, ty_20, ty_21, ty_22, ty_23, ty_24, ty_25, ty_26, ty_27, ty_28, ty_29, ty_30, ty_31, ty_32, ty_33, ty_34, ty_35, ty_36, ty_37, ty_38, ty_39, ty_40, ty_41, ty_42, ty_43, ty_44, ty_45, ty_46, ty_47, ty_48, ty_49, ty_50, ty_51, ty_52, ty_53, ty_54, ty_55, ty_56, ty_57, ty_58, ty_59, ty_60, ty_61, ty_62, ty_63, ty_64, ty_65, ty_66, ty_67, ty_68, ty_69, ty_70, ty_71, ty_72, ty_73, ty_74, ty_75, ty_76, ty_77, ty_78, pl_3_7, pl_3_12, pl_3_14, pl_3_15, pl_3_17, pl_4_12, pl_5_7, pl_6_16, pl_6_21, pl_7_3, pl_7_7, pl_8_5, pl_12_3, pl_13_1, pl_13_11, pl_15_6, pl_16_8, pl_17_4, pl_19_5, pl_19_12, pl_24_5, pl_24_12, pl_26_1, pl_27_2, pl_28_3, pl_30_3, pl_33_2, nq2, nq3, nq4, nq5, nr2, nr3, nr4, nr5, hty, hpl, e1, e2, c1, c2, c3, bytesOf, hn01]
              exact ⟨o1, o2, hs.mono hN2, hr.mono hN2, hv, st0⟩
            | true =>
              rw [c3] at he
              simp only [cond_true] at he
              cases c4 : intBeq ↑us.length ↑ws.length with
              | false =>
                rw [c4] at he
                simp only [cond_false, Option.some.injEq, Prod.mk.injEq] at he
                obtain ⟨rfl, rfl⟩ := he
                simp [cdL_seq, cdL_region, cdL_drawn, cdL_cond, cdL_block, cdL_skip, cdL_label, cdL_exit, cdL_ret, endL, evSeq, evOne, evAct, evOp, opKind, evPure, evRead, evNew, evWrite, evSlice, natOf, optVal, readAt, AV.cells, wantedA, putTm, val, allVals, evBin, evInt, evStr, evAppend, denseFrom, sizesAre, onesIn, evPlan, recheck, AV.beq_refl, H.new, H.put, fillF, fillAt, allOne, AV.one, setArgs, evRes, resOf, ofVal, ofVal0, blt_dec, ble_dec, beq_dec, T.get_set_ite, T.get_e, isShift, ikBeq, ty_0, ty_1, ty_2, ty_3, ty_4, ty_5, ty_6, ty_7, ty_8, ty_9, ty_10, ty_11, ty_12, ty_13, ty_14, ty_15, ty_16, ty_17, ty_18, ty_19, ty_20, ty_21, ty_22, ty_23, ty_24, ty_25, ty_26, ty_27, ty_28, ty_29, ty_30, ty_31, ty_32, ty_33, ty_34, ty_35, ty_36, ty_37, ty_38, ty_39, ty_40, ty_41, ty_42, ty_43, ty_44, ty_45, ty_46, ty_47, ty_48, ty_49, ty_50, ty_51, ty_52, ty_53, ty_54, ty_55, ty_56, ty_57, ty_58, ty_59, ty_60, ty_61, ty_62, ty_63, ty_64, ty_65, ty_66, ty_67, ty_68, ty_69, ty_70, ty_71, ty_72, ty_73, ty_74, ty_75, ty_76, ty_77, ty_78, pl_3_7, pl_3_12, pl_3_14, pl_3_15, pl_3_17, pl_4_12, pl_5_7, pl_6_16, pl_6_21, pl_7_3, pl_7_7, pl_8_5, pl_12_3, pl_13_1, pl_13_11, pl_15_6, pl_16_8, pl_17_4, pl_19_5, pl_19_12, pl_24_5, pl_24_12, pl_26_1, pl_27_2, pl_28_3, pl_30_3, pl_33_2, nq2, nq3, nq4, nq5, nr2, nr3, nr4, nr5, hty, hpl, e1, e2, c1, c2, c3, c4, hlu, hlw, bytesOf, hn01]
                exact ⟨o1, o2, hs.mono hN2, hr.mono hN2, hv, st0⟩
              | true =>
                rw [c4] at he
                simp only [cond_true] at he
                have hle : us.length = ws.length := by have := intBeq_iff.1 c4; omega
                have hgu := each_good ou.1
                simp only [good] at hgu
                have ha1 : ∀ n, occL n us = true → n ∈ L := fun n hn => hLu n (by simp only [occF, hva, c1, cond_false]; exact hn)
                have ha2 : ∀ n, occL n ws = true → n ∈ L := fun n hn => hLw n (by simp only [occF, hvb, c2, cond_false]; exact hn)
                simp [cdL_seq, cdL_region, cdL_drawn, cdL_cond, cdL_block, cdL_skip, cdL_label, cdL_exit, cdL_ret, endL, evSeq, evOne, evAct, evOp, opKind, evPure, evRead, evNew, evWrite, evSlice, natOf, optVal, readAt, AV.cells, wantedA, putTm, val, allVals, evBin, evInt, evStr, evAppend, denseFrom, sizesAre, onesIn, evPlan, recheck, AV.beq_refl, H.new, H.put, fillF, fillAt, allOne, AV.one, setArgs, evRes, resOf, ofVal, ofVal0, blt_dec, ble_dec, beq_dec, T.get_set_ite, T.get_e, isShift, ikBeq, ty_0, ty_1, ty_2, ty_3, ty_4, ty_5, ty_6, ty_7, ty_8, ty_9, ty_10, ty_11, ty_12, ty_13, ty_14, ty_15, ty_16, ty_17, ty_18, ty_19, ty_20, ty_21, ty_22, ty_23, ty_24, ty_25, ty_26, ty_27, ty_28, ty_29, ty_30, ty_31, ty_32, ty_33, ty_34, ty_35, ty_36, ty_37, ty_38, ty_39, ty_40, ty_41, ty_42, ty_43, ty_44, ty_45, ty_46, ty_47, ty_48, ty_49, ty_50, ty_51, ty_52, ty_53, ty_54, ty_55, ty_56, ty_57, ty_58, ty_59, ty_60, ty_61, ty_62, ty_63, ty_64, ty_65, ty_66, ty_67, ty_68, ty_69, ty_70, ty_71, ty_72, ty_73, ty_74, ty_75, ty_76, ty_77, ty_78, pl_3_7, pl_3_12, pl_3_14, pl_3_15, pl_3_17, pl_4_12, pl_5_7, pl_6_16, pl_6_21, pl_7_3, pl_7_7, pl_8_5, pl_12_3, pl_13_1, pl_13_11, pl_15_6, pl_16_8, pl_17_4, pl_19_5, pl_19_12, pl_24_5, pl_24_12, pl_26_1, pl_27_2, pl_28_3, pl_30_3, pl_33_2, nq2, nq3, nq4, nq5, nr2, nr3, nr4, nr5, hty, hpl, e1, e2, c1, c2, c3, c4, hlu, hlw, bytesOf, hn01]
                generalize hx : cdL E 13 64 (.loop b13_0) _ _ = x
                have hsn := hs.hs
                obtain ⟨tm', h', p1, p2, hcs, s3, r3, v3, st3⟩ := loop13 hty hpl (L := L) (b4 := h.nx) (b5 := h.nx + 1) (oa := oa) (ob := ob) (na := na) (nb := nb) hle hgu.1 ou.kids ow.kids ha1 ha2 hc (by omega) (by omega) us ws 0 S o1 o2 hx rfl rfl (Nat.zero_le _) (hs.mono hN2) (hr.mono hN2) hv (by simp [T.get_set_ite, hn01]) (by simp [T.get_set_ite]) (by simp; omega) (by simp) he (by simp [T.get_set_ite]) (by simp [T.get_set_ite]) (by simp [T.get_set_ite]) (by simp [T.get_set_ite])
                rcases hcs with ⟨rfl, rfl⟩ | ⟨rfl, rfl, g6⟩
                · simp [cdL_seq, cdL_region, cdL_drawn, cdL_cond, cdL_block, cdL_skip, cdL_label, cdL_exit, cdL_ret, endL, evSeq, evOne, evAct, evOp, opKind, evPure, evRead, evNew, evWrite, evSlice, natOf, optVal, readAt, AV.cells, wantedA, putTm, val, allVals, evBin, evInt, evStr, evAppend, denseFrom, sizesAre, onesIn, evPlan, recheck, AV.beq_refl, H.new, H.put, fillF, fillAt, allOne, AV.one, setArgs, evRes, resOf, ofVal, ofVal0, blt_dec, ble_dec, beq_dec, T.get_set_ite, T.get_e, isShift, ikBeq, ty_0, ty_1, ty_2, ty_3, ty_4, ty_5, ty_6, ty_7, ty_8, ty_9, ty_10, ty_11, ty_12, ty_13, ty_14, ty_15, ty_16, ty_17, ty_18, ty_19, ty_20, ty_21, ty_22, ty_23, ty_24, ty_25, ty_26, ty_27, ty_28, ty_29, ty_30, ty_31, ty_32, ty_33, ty_34, ty_35, ty_36, ty_37, ty_38, ty_39, ty_40, ty_41, ty_42, ty_43, ty_44, ty_45, ty_46, ty_47, ty_48, ty_49, ty_50, ty_51, ty_52, ty_53, ty_54, ty_55, ty_56, ty_57, ty_58, ty_59, ty_60, ty_61, ty_62, ty_63, ty_64, ty_65, ty_66, ty_67, ty_68, ty_69, ty_70, ty_71, ty_72, ty_73, ty_74, ty_75, ty_76, ty_77, ty_78, pl_3_7, pl_3_12, pl_3_14, pl_3_15, pl_3_17, pl_4_12, pl_5_7, pl_6_16, pl_6_21, pl_7_3, pl_7_7, pl_8_5, pl_12_3, pl_13_1, pl_13_11, pl_15_6, pl_16_8, pl_17_4, pl_19_5, pl_19_12, pl_24_5, pl_24_12, pl_26_1, pl_27_2, pl_28_3, pl_30_3, pl_33_2, hty, hpl]
                  exact ⟨p1, p2, s3, r3, v3, fin hN2 st3⟩
                · simp [cdL_seq, cdL_region, cdL_drawn, cdL_cond, cdL_block, cdL_skip, cdL_label, cdL_exit, cdL_ret, endL, evSeq, evOne, evAct, evOp, opKind, evPure, evRead, evNew, evWrite, evSlice, natOf, optVal, readAt, AV.cells, wantedA, putTm, val, allVals, evBin, evInt, evStr, evAppend, denseFrom, sizesAre, onesIn, evPlan, recheck, AV.beq_refl, H.new, H.put, fillF, fillAt, allOne, AV.one, setArgs, evRes, resOf, ofVal, ofVal0, blt_dec, ble_dec, beq_dec, T.get_set_ite, T.get_e, isShift, ikBeq, ty_0, ty_1, ty_2, ty_3, ty_4, ty_5, ty_6, ty_7, ty_8, ty_9, ty_10, ty_11, ty_12, ty_13, ty_14, ty_15, ty_16, ty_17, ty_18, ty_19, ty_20, ty_21, ty_22, ty_23, ty_24, ty_25, ty_26, ty_27, ty_28, ty_29, ty_30, ty_31, ty_32, ty_33, ty_34, ty_35, ty_36, ty_37, ty_38, ty_39, ty_40, ty_41, ty_42, ty_43, ty_44, ty_45, ty_46, ty_47, ty_48, ty_49, ty_50, ty_51, ty_52, ty_53, ty_54, ty_55, ty_56, ty_57, ty_58, ty_59, ty_60, ty_61, ty_62, ty_63, ty_64, ty_65, ty_66, ty_67, ty_68, ty_69, ty_70, ty_71, ty_72, ty_73, ty_74, ty_75, ty_76, ty_77, ty_78, pl_3_7, pl_3_12, pl_3_14, pl_3_15, pl_3_17, pl_4_12, pl_5_7, pl_6_16, pl_6_21, pl_7_3, pl_7_7, pl_8_5, pl_12_3, pl_13_1, pl_13_11, pl_15_6, pl_16_8, pl_17_4, pl_19_5, pl_19_12, pl_24_5, pl_24_12, pl_26_1, pl_27_2, pl_28_3, pl_30_3, pl_33_2, hty, hpl, g6]
                  exact ⟨p1, p2, s3, r3, v3, fin hN2 st3⟩
end Go.Proofs.Ytiifjjcoepgobaa.Env
