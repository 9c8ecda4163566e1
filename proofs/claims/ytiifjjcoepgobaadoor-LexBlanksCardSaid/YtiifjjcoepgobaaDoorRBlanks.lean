/- Blanks ahead of a text move all its tokens. -/
import Derived.Test.YtiifjjcoepgobaaDoorRToks
set_option autoImplicit false
set_option maxRecDepth 100000
set_option linter.unusedSimpArgs false
set_option linter.unusedVariables false
namespace Go.Proofs.YtiifjjcoepgobaaDoor.Env
open Go.Ev

/-! ### Plain -/
/-- A token, moved. -/
def sh (n : Nat) : AV → AV
  | .agg [a, b, c, .int .i64 x] => .agg [a, b, c, .int .i64 (x + ↑n)]
  | v => v
theorem sh_tok (n : Nat) (k : Int) (t : List Nat) (v : Int) (a : Nat) : tokA k t v ↑(n + a) = sh n (tokA k t v ↑a) := by
  simp [tokA, sh]; omega
theorem at_app (b s : List Nat) (i : Nat) : (b ++ s)[b.length + i]? = s[i]? := by rw [List.getElem?_append_right (Nat.le_add_right ..)]; congr 1; omega
theorem drop_app (b s : List Nat) (i : Nat) : (b ++ s).drop (b.length + i) = s.drop i := by rw [List.drop_append]; simp
theorem tokAt_app (b s : List Nat) (i : Nat) : tokAt (b ++ s) (b.length + i) = (tokAt s i).map fun p => (sh b.length p.1, p.2) := by
  cases hc : s[i]? with
  | none =>
    have e1 : tokRes (b ++ s) (b.length + i) = .tup [] := by unfold tokRes; rw [at_app, hc]
    have e2 : tokRes s i = .tup [] := by unfold tokRes; rw [hc]
    unfold tokAt
    rw [e1, e2]
    rfl
  | some c =>
    have e1 : tokRes (b ++ s) (b.length + i) = bif pLetter ↑c then nameRes (b ++ s) (b.length + i) else bif pDigit ↑c then numRes (b ++ s) (b.length + i) else bif intBeq ↑c 34 then textRes (b ++ s) (b.length + i) else signRes (b ++ s) (b.length + i) := by
      unfold tokRes; rw [at_app, hc]
    have e2 : tokRes s i = bif pLetter ↑c then nameRes s i else bif pDigit ↑c then numRes s i else bif intBeq ↑c 34 then textRes s i else signRes s i := by
      unfold tokRes; rw [hc]
    cases h1 : pLetter ↑c with
    | true =>
      rw [h1] at e1 e2
      simp only [cond_true] at e1 e2
      unfold nameRes at e1 e2
      rw [drop_app, sh_tok] at e1
      cases h2 : ltI 12 ↑(cnt pMore (s.drop i)) with
      | true => rw [h2] at e1 e2; rw [tokAt_f e1, tokAt_f e2]; rfl
      | false => rw [h2] at e1 e2; rw [tokAt_t e1, tokAt_t e2]; rfl
    | false =>
      rw [h1] at e1 e2
      simp only [cond_false] at e1 e2
      cases h2 : pDigit ↑c with
      | true =>
        rw [h2] at e1 e2
        simp only [cond_true] at e1 e2
        unfold numRes at e1 e2
        have hb : numBad (b ++ s) (b.length + i) (cnt pDigit (s.drop i)) = numBad s i (cnt pDigit (s.drop i)) := by unfold numBad; rw [at_app]
        rw [drop_app, hb, sh_tok, sh_tok] at e1
        cases h3 : numBad s i (cnt pDigit (s.drop i)) with
        | true => rw [h3] at e1 e2; rw [tokAt_f e1, tokAt_f e2]; rfl
        | false => rw [h3] at e1 e2; rw [tokAt_t e1, tokAt_t e2]; rfl
      | false =>
        rw [h2] at e1 e2
        simp only [cond_false] at e1 e2
        cases h3 : intBeq ↑c 34 with
        | true =>
          rw [h3] at e1 e2
          simp only [cond_true] at e1 e2
          unfold textRes at e1 e2
          have hd : (b ++ s).drop (b.length + i + 1) = s.drop (i + 1) := by rw [Nat.add_assoc]; exact drop_app b s (i + 1)
          have hb : okText (b ++ s) (b.length + i + 1 + cnt pPlain (s.drop (i + 1))) (cnt pPlain (s.drop (i + 1))) = okText s (i + 1 + cnt pPlain (s.drop (i + 1))) (cnt pPlain (s.drop (i + 1))) := by
            unfold okText
            rw [show b.length + i + 1 + cnt pPlain (s.drop (i + 1)) = b.length + (i + 1 + cnt pPlain (s.drop (i + 1))) by omega, at_app]
          rw [hd, hb, sh_tok] at e1
          cases h4 : okText s (i + 1 + cnt pPlain (s.drop (i + 1))) (cnt pPlain (s.drop (i + 1))) with
          | true => rw [h4] at e1 e2; rw [tokAt_t e1, tokAt_t e2]; rfl
          | false => rw [h4] at e1 e2; rw [tokAt_f e1, tokAt_f e2]; rfl
        | false =>
          rw [h3] at e1 e2
          simp only [cond_false] at e1 e2
          unfold signRes at e1 e2
          rw [drop_app] at e1
          cases h4 : firstF (s.drop i) signsL with
          | none => rw [h4] at e1 e2; rw [tokAt_f e1, tokAt_f e2]; rfl
          | some w => rw [h4] at e1 e2; simp only [sh_tok] at e1; rw [tokAt_t e1, tokAt_t e2]; rfl
theorem lx_app (b s : List Nat) : ∀ (f i : Nat) (l l' : List AV), lx f s i l = (l', none) → lx f (b ++ s) (b.length + i) (l.map (sh b.length)) = (l'.map (sh b.length), none)
  | 0, i, l, l', h => by simp only [lx, Prod.mk.injEq] at h ⊢; rw [h.1]; exact ⟨rfl, trivial⟩
  | f + 1, i, l, l', h => by
    simp only [lx] at h ⊢
    rw [at_app]
    cases hc : s[i]? with
    | none => rw [hc] at h; simp only [Prod.mk.injEq] at h ⊢; rw [h.1]; exact ⟨rfl, trivial⟩
    | some c =>
      rw [hc] at h
      simp only at h ⊢
      cases hb : isBlank c with
      | true => rw [hb] at h; exact lx_app b s f (i + 1) l l' h
      | false =>
        rw [hb] at h
        simp only [cond_false] at h ⊢
        rw [tokAt_app]
        cases ht : tokAt s i with
        | none => rw [ht] at h; simp at h
        | some p =>
          obtain ⟨t, n⟩ := p
          rw [ht] at h
          simp only [Option.map_some] at h ⊢
          have := lx_app b s f (i + n) _ l' h
          rw [List.map_append] at this
          rw [Nat.add_assoc]
          exact this
theorem lx_blanks (s : List Nat) (l : List AV) (f : Nat) : ∀ (b a : List Nat), (∀ c ∈ b, isBlank c = true) → lx (b.length + f) (a ++ b ++ s) a.length l = lx f (a ++ b ++ s) (a.length + b.length) l
  | [], a, _ => by simp
  | c :: b, a, h => by
    have hc : (a ++ c :: b ++ s)[a.length]? = some c := by
      have := at_app a (c :: b ++ s) 0
      simp at this ⊢
    have ih := lx_blanks s l f b (a ++ [c]) (fun x hx => h x (List.mem_cons_of_mem _ hx))
    simp only [List.append_assoc, List.singleton_append, List.length_append, List.length_cons, List.length_nil] at ih
    rw [show (c :: b).length + f = (b.length + f) + 1 by simp; omega, lx, hc]
    simp only [h c (List.mem_cons_self ..), cond_true]
    simp only [List.append_assoc, List.cons_append, List.length_cons]
    rw [show 0 + 1 = 1 from rfl] at ih
    rw [List.cons_append] at ih
    rw [ih]
    congr 1
    omega
theorem lx_more (s : List Nat) : ∀ (f g i : Nat) (l : List AV), s.length - i < f → f ≤ g → lx g s i l = lx f s i l
  | 0, g, i, l, h, _ => by omega
  | f + 1, 0, i, l, _, h => by omega
  | f + 1, g + 1, i, l, h, hg => by
    simp only [lx]
    cases hc : s[i]? with
    | none => rfl
    | some c =>
      have hlt := getElem?_lt hc
      simp only
      cases hb : isBlank c with
      | true => exact lx_more s f g (i + 1) l (by omega) (by omega)
      | false =>
        simp only [cond_false]
        rcases tokRes_cases hc with ⟨x1, x2, x3, x4, n, e, hn, hin, ht⟩ | ⟨x1, x2, x3, x4, n, e, ht⟩
        · rw [ht]; exact lx_more s f g (i + n) _ (by omega) (by omega)
        · rw [ht]
theorem lx_ahead {b s : List Nat} (hb : ∀ c ∈ b, isBlank c = true) {l : List AV} (h : lx (s.length + 1) s 0 [] = (l, none)) : lx ((b ++ s).length + 1) (b ++ s) 0 [] = (l.map (sh b.length), none) := by
  have h1 := lx_blanks s [] (s.length + 1) b [] hb
  simp only [List.nil_append, List.length_nil, Nat.zero_add] at h1
  have h2 := lx_app b s (s.length + 1) 0 [] l h
  simp only [Nat.add_zero, List.map_nil] at h2
  rw [show (b ++ s).length + 1 = b.length + (s.length + 1) by simp; omega, h1]
  exact h2

/-- Tokens whose places are in a text. -/
def tokN (m : Nat) (t : AV) : Prop := ∃ (x1 : Int) (x2 : List Nat) (x3 : Int) (j : Nat), j ≤ m ∧ t = .agg [.int .i64 x1, .str x2, .int .i64 x3, .int .i64 ↑j]
theorem lx_tokN {s : List Nat} : ∀ (f i : Nat) (l l' : List AV), (∀ t ∈ l, tokN s.length t) → lx f s i l = (l', none) → ∀ t ∈ l', tokN s.length t
  | 0, i, l, l', hg, h => by simp only [lx, Prod.mk.injEq] at h; rw [← h.1]; exact hg
  | f + 1, i, l, l', hg, h => by
    simp only [lx] at h
    cases hc : s[i]? with
    | none => rw [hc] at h; simp only [Prod.mk.injEq] at h; rw [← h.1]; exact hg
    | some c =>
      have hlt := getElem?_lt hc
      rw [hc] at h
      simp only at h
      cases hb : isBlank c with
      | true => rw [hb] at h; exact lx_tokN f _ _ _ hg h
      | false =>
        rw [hb] at h
        simp only [cond_false] at h
        rcases rone_cases hc with ⟨x1, x2, x3, x4, n, e, hn, ht⟩ | ⟨x1, x2, x3, x4, e, ht⟩
        · rw [ht] at h
          refine lx_tokN f _ _ _ (fun t hx => ?_) h
          rcases List.mem_append.1 hx with hx | hx
          · exact hg t hx
          · rw [List.mem_singleton.1 hx]
            exact ⟨x1, x2, x3, i, by omega, rfl⟩
        · rw [ht] at h; simp at h

/-! ### The law -/
def blk (i : Nat) : Nat := match i % 3 with | 0 => 32 | 1 => 9 | _ => 10
/-- So many blanks, as the law puts them. -/
def blks : Nat → List Nat
  | 0 => []
  | n + 1 => blk n :: blks n
theorem blks_len : ∀ n, (blks n).length = n
  | 0 => rfl
  | n + 1 => by simp [blks, blks_len n]
theorem blks_blank : ∀ n, ∀ c ∈ blks n, isBlank c = true
  | 0, c, h => by simp [blks] at h
  | n + 1, c, h => by
    rcases List.mem_cons.1 h with rfl | h
    · unfold blk
      split <;> rfl
    · exact blks_blank n c h
noncomputable def b4_0 : Code := loopOf Tryd.f4 0
noncomputable def b4_1 : Code := loopOf Tryd.f4 1
theorem body4 : Tryd.f4.body = some (.seq (codeAt Tryd.f4 [0]) (.seq (codeAt Tryd.f4 [1, 0]) (.seq (codeAt Tryd.f4 [1, 1, 0]) (.seq (codeAt Tryd.f4 [1, 1, 1, 0]) (.seq (.seq (codeAt Tryd.f4 [1, 1, 1, 1, 0, 0]) (.block 0 (.loop b4_0))) (.seq (codeAt Tryd.f4 [1, 1, 1, 1, 1, 0]) (.seq (codeAt Tryd.f4 [1, 1, 1, 1, 1, 1, 0]) (.seq (.seq (codeAt Tryd.f4 [1, 1, 1, 1, 1, 1, 1, 0, 0]) (.block 2 (.loop b4_1))) (codeAt Tryd.f4 [1, 1, 1, 1, 1, 1, 1, 1]))))))))) := rfl
structure R4 (s : List Nat) (n i : Nat) (r : AV) (tm : Tm) : Prop where
  g1 : tm.get 1 = some (.int .i64 ↑n)
  g5 : tm.get 5 = some r
  g8 : tm.get 8 = some (.str (blks i ++ s))
  g9 : tm.get 9 = some (.int .i64 ↑i)
theorem loop4_0 {s : List Nat} {n : Nat} {r : AV} (hn : n ≤ 50) (hs : s.length ≤ 1000) : ∀ (m i : Nat) {tm : Tm} {h : H} {x : Option (Ex × Tm × H)}, cdL env11 4 92 (.loop b4_0) tm h = x → i + m = n → R4 s n i r tm →
    ∃ tm', x = some (.exit 0, tm', h) ∧ R4 s n n r tm'
  | 0, i, tm, h, x, hx, hm, R0 => by
    obtain rfl : i = n := by omega
    obtain ⟨h1, h5, h8, h9⟩ := R0
    obtain ⟨R, hR, hx⟩ := loop_step hx
    simp [b4_0, loopOf, Tryd.f4, loops, cdL_seq, cdL_region, cdL_drawn, cdL_cond, cdL_block, cdL_skip, cdL_label, cdL_exit, cdL_ret, endL, evSeq, evOne, evAct, evOp, opKind, evPure, evRead, evNew, evWrite, evSlice, natOf, optVal, readAt, AV.cells, wantedA, putTm, val, allVals, evBin, evInt, evStr, evAppend, denseFrom, sizesAre, onesIn, evPlan, recheck, AV.beq_refl, H.new, H.put, fillF, fillAt, allOne, AV.one, setArgs, evRes, resOf, ofVal, ofVal0, blt_dec, ble_dec, beq_dec, T.get_set_ite, T.get_e, isShift, ikBeq, ty_0, ty_1, ty_2, ty_3, ty_4, ty_5, ty_6, ty_7, ty_8, ty_9, ty_10, ty_11, ty_12, ty_13, ty_14, ty_15, ty_16, ty_17, ty_18, ty_19, ty_20, ty_21, ty_22, ty_23, ty_24, ty_25, ty_26, ty_27, ty_28, ty_29, ty_30, ty_31, ty_32, ty_33, ty_34, ty_35, ty_36, ty_37, ty_38, ty_39, ty_40, ty_41, ty_42, ty_43, ty_44, ty_45, ty_46, ty_47, ty_48, ty_49, ty_50, ty_51, ty_52, ty_53, ty_54, ty_55, ty_56, ty_57, ty_58, ty_59, ty_60, ty_61, ty_62, ty_63, ty_64, ty_65, ty_66, ty_67, ty_68, ty_69, ty_70, ty_71, ty_72, ty_73, ty_74, ty_75, ty_76, ty_77, ty_78, ty_79, ty_80, ty_81, ty_82, ty_83, ty_84, ty_85, ty_86, ty_87, ty_88, ty_89, ty_90, pl_4_17, pl_7_6, pl_10_6, pl_15_6, pl_18_3, pl_28_5, pl_43_9, pl_43_18, pl_44_9, lp, e11ty, e11pl, h1, h5, h8, h9, ltI_f] at hx
    exact ⟨_, hx.symm, by simp [T.get_set_ite, h1], by simp [T.get_set_ite, h5], by simp [T.get_set_ite, h8], by simp [T.get_set_ite, h9]⟩
  | m + 1, i, tm, h, x, hx, hm, R0 => by
    obtain ⟨h1, h5, h8, h9⟩ := R0
    obtain ⟨R, hR, hx⟩ := loop_step hx
    have hlt' := ltI_t (a := i) (b := n) (by omega)
    have hw := wr_succ (i := i) (by omega)
    have hz : intBeq 3 0 = false := rfl
    have hb : (blks i).length = i := blks_len i
    have hle : i + s.length + 1 ≤ 140737488355328 := by omega
    have hle2 : 1 + (i + s.length) ≤ 140737488355328 := by omega
    have ht : Int.tmod (↑i) 3 = ↑(i % 3) := rfl
    have h3 : i % 3 = 0 ∨ i % 3 = 1 ∨ i % 3 = 2 := by omega
    have key : ∀ tm1 : Tm, tm1.get 1 = some (.int .i64 ↑n) → tm1.get 5 = some r → tm1.get 8 = some (.str (blk i :: (blks i ++ s))) → tm1.get 9 = some (.int .i64 (↑i + 1)) → cdL env11 4 92 (.loop b4_0) tm1 h = x → ∃ tm', x = some (.exit 0, tm', h) ∧ R4 s n n r tm' := fun tm1 q1 q5 q8 q9 hq =>
      loop4_0 hn hs m (i + 1) hq (by omega) ⟨q1, q5, q8, q9⟩
    have hbk : blk i = match i % 3 with | 0 => 32 | 1 => 9 | _ => 10 := rfl
    rcases h3 with e | e | e <;> rw [e] at ht hbk <;>
      simp [b4_0, loopOf, Tryd.f4, loops, cdL_seq, cdL_region, cdL_drawn, cdL_cond, cdL_block, cdL_skip, cdL_label, cdL_exit, cdL_ret, endL, evSeq, evOne, evAct, evOp, opKind, evPure, evRead, evNew, evWrite, evSlice, natOf, optVal, readAt, AV.cells, wantedA, putTm, val, allVals, evBin, evInt, evStr, evAppend, denseFrom, sizesAre, onesIn, evPlan, recheck, AV.beq_refl, H.new, H.put, fillF, fillAt, allOne, AV.one, setArgs, evRes, resOf, ofVal, ofVal0, blt_dec, ble_dec, beq_dec, T.get_set_ite, T.get_e, isShift, ikBeq, ty_0, ty_1, ty_2, ty_3, ty_4, ty_5, ty_6, ty_7, ty_8, ty_9, ty_10, ty_11, ty_12, ty_13, ty_14, ty_15, ty_16, ty_17, ty_18, ty_19, ty_20, ty_21, ty_22, ty_23, ty_24, ty_25, ty_26, ty_27, ty_28, ty_29, ty_30, ty_31, ty_32, ty_33, ty_34, ty_35, ty_36, ty_37, ty_38, ty_39, ty_40, ty_41, ty_42, ty_43, ty_44, ty_45, ty_46, ty_47, ty_48, ty_49, ty_50, ty_51, ty_52, ty_53, ty_54, ty_55, ty_56, ty_57, ty_58, ty_59, ty_60, ty_61, ty_62, ty_63, ty_64, ty_65, ty_66, ty_67, ty_68, ty_69, ty_70, ty_71, ty_72, ty_73, ty_74, ty_75, ty_76, ty_77, ty_78, ty_79, ty_80, ty_81, ty_82, ty_83, ty_84, ty_85, ty_86, ty_87, ty_88, ty_89, ty_90, pl_4_17, pl_7_6, pl_10_6, pl_15_6, pl_18_3, pl_28_5, pl_43_9, pl_43_18, pl_44_9, lp, e11ty, e11pl, h1, h5, h8, h9, hlt', hw, hz, hb, hle, hle2, ht, bytesOf, byteEls] at hx <;>
      (rw [hR] at hx
       exact key _ (by simp [T.get_set_ite, h1]) (by simp [T.get_set_ite, h5]) (by simp [T.get_set_ite, hbk]) (by simp [T.get_set_ite]) hx)
structure R5 (n i : Nat) (o1 o2 : Own) (L : List AV) (tm : Tm) : Prop where
  g1 : tm.get 1 = some (.int .i64 ↑n)
  g5 : tm.get 5 = some (.sl o1 L)
  g10 : tm.get 10 = some (.sl o2 (L.map (sh n)))
  g13 : tm.get 13 = some (.int .i64 ↑i)
theorem loop4_1 {L : List AV} {n m : Nat} {o1 o2 : Own} (hn : n ≤ 50) (hm : m ≤ 100000) (hl : L.length ≤ 100000) (hg : ∀ t ∈ L, tokN m t) : ∀ (l : List AV) (i : Nat) {tm : Tm} {h : H} {x : Option (Ex × Tm × H)}, cdL env11 4 92 (.loop b4_1) tm h = x → l = L.drop i → i ≤ L.length → R5 n i o1 o2 L tm →
    ∃ tm' h', x = some (.exit 2, tm', h')
  | [], i, tm, h, x, hx, hd, hi, R0 => by
    have hlen := dnil hd hi
    obtain ⟨h1, h5, h10, h13⟩ := R0
    obtain ⟨R, hR, hx⟩ := loop_step hx
    simp [b4_1, loopOf, Tryd.f4, loops, cdL_seq, cdL_region, cdL_drawn, cdL_cond, cdL_block, cdL_skip, cdL_label, cdL_exit, cdL_ret, endL, evSeq, evOne, evAct, evOp, opKind, evPure, evRead, evNew, evWrite, evSlice, natOf, optVal, readAt, AV.cells, wantedA, putTm, val, allVals, evBin, evInt, evStr, evAppend, denseFrom, sizesAre, onesIn, evPlan, recheck, AV.beq_refl, H.new, H.put, fillF, fillAt, allOne, AV.one, setArgs, evRes, resOf, ofVal, ofVal0, blt_dec, ble_dec, beq_dec, T.get_set_ite, T.get_e, isShift, ikBeq, ty_0, ty_1, ty_2, ty_3, ty_4, ty_5, ty_6, ty_7, ty_8, ty_9, ty_10, ty_11, ty_12, ty_13, ty_14, ty_15, ty_16, ty_17, ty_18, ty_19, ty_20, ty_21, ty_22, ty_23, ty_24, ty_25, ty_26, ty_27, ty_28, ty_29, ty_30, ty_31, ty_32, ty_33, ty_34, ty_35, ty_36, ty_37, ty_38, ty_39, ty_40, ty_41, ty_42, ty_43, ty_44, ty_45, ty_46, ty_47, ty_48, ty_49, ty_50, ty_51, ty_52, ty_53, ty_54, ty_55, ty_56, ty_57, ty_58, ty_59, ty_60, ty_61, ty_62, ty_63, ty_64, ty_65, ty_66, ty_67, ty_68, ty_69, ty_70, ty_71, ty_72, ty_73, ty_74, ty_75, ty_76, ty_77, ty_78, ty_79, ty_80, ty_81, ty_82, ty_83, ty_84, ty_85, ty_86, ty_87, ty_88, ty_89, ty_90, pl_4_17, pl_7_6, pl_10_6, pl_15_6, pl_18_3, pl_28_5, pl_43_9, pl_43_18, pl_44_9, lp, e11ty, e11pl, h1, h5, h10, h13, hlen, ltI_f] at hx
    exact ⟨_, _, hx.symm⟩
  | t :: l, i, tm, h, x, hx, hd, hi, R0 => by
    obtain ⟨hlt, hc, hd'⟩ := dcons hd
    obtain ⟨h1, h5, h10, h13⟩ := R0
    obtain ⟨R, hR, hx⟩ := loop_step hx
    have hlt' := ltI_t hlt
    have hw := wr_succ (i := i) (by omega)
    obtain ⟨x1, x2, x3, j, hj, rfl⟩ := hg t (List.mem_of_getElem? hc)
    have q1 : ∀ n, intBeq n n = true := fun n => by rw [intBeq_eq]; simp
    have hc2 : (L.map (sh n))[i]? = some (.agg [.int .i64 x1, .str x2, .int .i64 x3, .int .i64 (↑j + ↑n)]) := by rw [List.getElem?_map, hc]; rfl
    have hw2 : wr .i64 ↑j = ↑j := wr_nat (by omega)
    have hsub : (↑j + ↑n : Int) - ↑n = ↑j := by omega
    simp only [List.getElem?_map] at hc2
    simp [b4_1, loopOf, Tryd.f4, loops, cdL_seq, cdL_region, cdL_drawn, cdL_cond, cdL_block, cdL_skip, cdL_label, cdL_exit, cdL_ret, endL, evSeq, evOne, evAct, evOp, opKind, evPure, evRead, evNew, evWrite, evSlice, natOf, optVal, readAt, AV.cells, wantedA, putTm, val, allVals, evBin, evInt, evStr, evAppend, denseFrom, sizesAre, onesIn, evPlan, recheck, AV.beq_refl, H.new, H.put, fillF, fillAt, allOne, AV.one, setArgs, evRes, resOf, ofVal, ofVal0, blt_dec, ble_dec, beq_dec, T.get_set_ite, T.get_e, isShift, ikBeq, ty_0, ty_1, ty_2, ty_3, ty_4, ty_5, ty_6, ty_7, ty_8, ty_9, ty_10, ty_11, ty_12, ty_13, ty_14, ty_15, ty_16, ty_17, ty_18, ty_19, ty_20, ty_21, ty_22, ty_23, ty_24, ty_25, ty_26, ty_27, ty_28, ty_29, ty_30, ty_31, ty_32, ty_33, ty_34, ty_35, ty_36, ty_37, ty_38, ty_39, ty_40, ty_41, ty_42, ty_43, ty_44, ty_45, ty_46, ty_47, ty_48, ty_49, ty_50, ty_51, ty_52, ty_53, ty_54, ty_55, ty_56, ty_57, ty_58, ty_59, ty_60, ty_61, ty_62, ty_63, ty_64, ty_65, ty_66, ty_67, ty_68, ty_69, ty_70, ty_71, ty_72, ty_73, ty_74, ty_75, ty_76, ty_77, ty_78, ty_79, ty_80, ty_81, ty_82, ty_83, ty_84, ty_85, ty_86, ty_87, ty_88, ty_89, ty_90, pl_4_17, pl_7_6, pl_10_6, pl_15_6, pl_18_3, pl_28_5, pl_43_9, pl_43_18, pl_44_9, lp, e11ty, e11pl, h1, h5, h10, h13, hlt', hc, hc2, hw, hw2, isub, hsub, evFlat, cellEq, q1, natsBeq_refl, sh] at hx
    rw [hR] at hx
    exact loop4_1 (o1 := o1) (o2 := o2) hn hm hl hg l (i + 1) hx hd' hlt ⟨by simp [T.get_set_ite, h1], by simp [T.get_set_ite, h5], by simp [T.get_set_ite, h10], by simp [T.get_set_ite]⟩
theorem law4 (s : List Nat) (z : Int) : ∃ h', evL env11 4 [.str s, .int .i64 z] ⟨.e, 0⟩ = some (.bool true, h') := by
  rw [evL_fn env11 (by kernel_rfl) (by kernel_rfl) body4 _ _ rfl]
  simp only [codeAt, sub, Tryd.f4]
  have w9 := fun h => e11_9 h s
  have w8 := fun t h => e11_8 h t
  have q1 : ∀ n, intBeq n n = true := fun n => by rw [intBeq_eq]; simp
  have q7 : intBeq 7 0 = false := rfl
  have q2 : intBeq 2 0 = false := rfl
  unfold toks at w9
  have done : ∀ (e1 e2 e3 : Bool), (e1 || e2 || e3) = true → ltI 1000 ↑s.length = e1 → ltI z 0 = e2 → ltI 50 z = e3 → ∀ r, (∀ h, evL env11 9 [.str s] h = some (r, h)) → True := fun _ _ _ _ _ _ _ _ _ => trivial
  cases hb1 : ltI 1000 ↑s.length with
  | true =>
    cases hq2 : ltI 2000 ↑s.length with
    | true =>
      rw [hq2] at w9
      simp [cdL_seq, cdL_region, cdL_drawn, cdL_cond, cdL_block, cdL_skip, cdL_label, cdL_exit, cdL_ret, endL, evSeq, evOne, evAct, evOp, opKind, evPure, evRead, evNew, evWrite, evSlice, natOf, optVal, readAt, AV.cells, wantedA, putTm, val, allVals, evBin, evInt, evStr, evAppend, denseFrom, sizesAre, onesIn, evPlan, recheck, AV.beq_refl, H.new, H.put, fillF, fillAt, allOne, AV.one, setArgs, evRes, resOf, ofVal, ofVal0, blt_dec, ble_dec, beq_dec, T.get_set_ite, T.get_e, isShift, ikBeq, ty_0, ty_1, ty_2, ty_3, ty_4, ty_5, ty_6, ty_7, ty_8, ty_9, ty_10, ty_11, ty_12, ty_13, ty_14, ty_15, ty_16, ty_17, ty_18, ty_19, ty_20, ty_21, ty_22, ty_23, ty_24, ty_25, ty_26, ty_27, ty_28, ty_29, ty_30, ty_31, ty_32, ty_33, ty_34, ty_35, ty_36, ty_37, ty_38, ty_39, ty_40, ty_41, ty_42, ty_43, ty_44, ty_45, ty_46, ty_47, ty_48, ty_49, ty_50, ty_51, ty_52, ty_53, ty_54, ty_55, ty_56, ty_57, ty_58, ty_59, ty_60, ty_61, ty_62, ty_63, ty_64, ty_65, ty_66, ty_67, ty_68, ty_69, ty_70, ty_71, ty_72, ty_73, ty_74, ty_75, ty_76, ty_77, ty_78, ty_79, ty_80, ty_81, ty_82, ty_83, ty_84, ty_85, ty_86, ty_87, ty_88, ty_89, ty_90, pl_4_17, pl_7_6, pl_10_6, pl_15_6, pl_18_3, pl_28_5, pl_43_9, pl_43_18, pl_44_9, e11ty, e11pl, hb1, w9]
    | false =>
      rw [hq2] at w9
      simp only [cond_false] at w9
      rcases hq : lx (s.length + 1) s 0 [] with ⟨l', _ | j⟩ <;> rw [hq] at w9 <;> simp [cdL_seq, cdL_region, cdL_drawn, cdL_cond, cdL_block, cdL_skip, cdL_label, cdL_exit, cdL_ret, endL, evSeq, evOne, evAct, evOp, opKind, evPure, evRead, evNew, evWrite, evSlice, natOf, optVal, readAt, AV.cells, wantedA, putTm, val, allVals, evBin, evInt, evStr, evAppend, denseFrom, sizesAre, onesIn, evPlan, recheck, AV.beq_refl, H.new, H.put, fillF, fillAt, allOne, AV.one, setArgs, evRes, resOf, ofVal, ofVal0, blt_dec, ble_dec, beq_dec, T.get_set_ite, T.get_e, isShift, ikBeq, ty_0, ty_1, ty_2, ty_3, ty_4, ty_5, ty_6, ty_7, ty_8, ty_9, ty_10, ty_11, ty_12, ty_13, ty_14, ty_15, ty_16, ty_17, ty_18, ty_19, ty_20, ty_21, ty_22, ty_23, ty_24, ty_25, ty_26, ty_27, ty_28, ty_29, ty_30, ty_31, ty_32, ty_33, ty_34, ty_35, ty_36, ty_37, ty_38, ty_39, ty_40, ty_41, ty_42, ty_43, ty_44, ty_45, ty_46, ty_47, ty_48, ty_49, ty_50, ty_51, ty_52, ty_53, ty_54, ty_55, ty_56, ty_57, ty_58, ty_59, ty_60, ty_61, ty_62, ty_63, ty_64, ty_65, ty_66, ty_67, ty_68, ty_69, ty_70, ty_71, ty_72, ty_73, ty_74, ty_75, ty_76, ty_77, ty_78, ty_79, ty_80, ty_81, ty_82, ty_83, ty_84, ty_85, ty_86, ty_87, ty_88, ty_89, ty_90, pl_4_17, pl_7_6, pl_10_6, pl_15_6, pl_18_3, pl_28_5, pl_43_9, pl_43_18, pl_44_9, e11ty, e11pl, hb1, w9]
  | false =>
    have hle : s.length ≤ 1000 := by rw [show (1000 : Int) = ((1000 : Nat) : Int) from rfl, ltI_nat] at hb1; simpa using hb1
    have hq2 : ltI 2000 ↑s.length = false := ltI_f (a := 2000) (by omega)
    rw [hq2] at w9
    simp only [cond_false] at w9
    rcases hq : lx (s.length + 1) s 0 [] with ⟨l', _ | j⟩
    · rw [hq] at w9
      cases hb2 : ltI z 0 with
      | true => simp [cdL_seq, cdL_region, cdL_drawn, cdL_cond, cdL_block, cdL_skip, cdL_label, cdL_exit, cdL_ret, endL, evSeq, evOne, evAct, evOp, opKind, evPure, evRead, evNew, evWrite, evSlice, natOf, optVal, readAt, AV.cells, wantedA, putTm, val, allVals, evBin, evInt, evStr, evAppend, denseFrom, sizesAre, onesIn, evPlan, recheck, AV.beq_refl, H.new, H.put, fillF, fillAt, allOne, AV.one, setArgs, evRes, resOf, ofVal, ofVal0, blt_dec, ble_dec, beq_dec, T.get_set_ite, T.get_e, isShift, ikBeq, ty_0, ty_1, ty_2, ty_3, ty_4, ty_5, ty_6, ty_7, ty_8, ty_9, ty_10, ty_11, ty_12, ty_13, ty_14, ty_15, ty_16, ty_17, ty_18, ty_19, ty_20, ty_21, ty_22, ty_23, ty_24, ty_25, ty_26, ty_27, ty_28, ty_29, ty_30, ty_31, ty_32, ty_33, ty_34, ty_35, ty_36, ty_37, ty_38, ty_39, ty_40, ty_41, ty_42, ty_43, ty_44, ty_45, ty_46, ty_47, ty_48, ty_49, ty_50, ty_51, ty_52, ty_53, ty_54, ty_55, ty_56, ty_57, ty_58, ty_59, ty_60, ty_61, ty_62, ty_63, ty_64, ty_65, ty_66, ty_67, ty_68, ty_69, ty_70, ty_71, ty_72, ty_73, ty_74, ty_75, ty_76, ty_77, ty_78, ty_79, ty_80, ty_81, ty_82, ty_83, ty_84, ty_85, ty_86, ty_87, ty_88, ty_89, ty_90, pl_4_17, pl_7_6, pl_10_6, pl_15_6, pl_18_3, pl_28_5, pl_43_9, pl_43_18, pl_44_9, e11ty, e11pl, hb1, hb2, w9]
      | false =>
        cases hb3 : ltI 50 z with
        | true => simp [cdL_seq, cdL_region, cdL_drawn, cdL_cond, cdL_block, cdL_skip, cdL_label, cdL_exit, cdL_ret, endL, evSeq, evOne, evAct, evOp, opKind, evPure, evRead, evNew, evWrite, evSlice, natOf, optVal, readAt, AV.cells, wantedA, putTm, val, allVals, evBin, evInt, evStr, evAppend, denseFrom, sizesAre, onesIn, evPlan, recheck, AV.beq_refl, H.new, H.put, fillF, fillAt, allOne, AV.one, setArgs, evRes, resOf, ofVal, ofVal0, blt_dec, ble_dec, beq_dec, T.get_set_ite, T.get_e, isShift, ikBeq, ty_0, ty_1, ty_2, ty_3, ty_4, ty_5, ty_6, ty_7, ty_8, ty_9, ty_10, ty_11, ty_12, ty_13, ty_14, ty_15, ty_16, ty_17, ty_18, ty_19, ty_20, ty_21, ty_22, ty_23, ty_24, ty_25, ty_26, ty_27, ty_28, ty_29, ty_30, ty_31, ty_32, ty_33, ty_34, ty_35, ty_36, ty_37, ty_38, ty_39, ty_40, ty_41, ty_42, ty_43, ty_44, ty_45, ty_46, ty_47, ty_48, ty_49, ty_50, ty_51, ty_52, ty_53, ty_54, ty_55, ty_56, ty_57, ty_58, ty_59, ty_60, ty_61, ty_62, ty_63, ty_64, ty_65, ty_66, ty_67, ty_68, ty_69, ty_70, ty_71, ty_72, ty_73, ty_74, ty_75, ty_76, ty_77, ty_78, ty_79, ty_80, ty_81, ty_82, ty_83, ty_84, ty_85, ty_86, ty_87, ty_88, ty_89, ty_90, pl_4_17, pl_7_6, pl_10_6, pl_15_6, pl_18_3, pl_28_5, pl_43_9, pl_43_18, pl_44_9, e11ty, e11pl, hb1, hb2, hb3, w9]
        | false =>
          obtain ⟨n, rfl⟩ : ∃ n : Nat, z = ↑n := by
            rw [ltI_eq] at hb2
            simp at hb2
            exact ⟨z.toNat, by omega⟩
          have hn : n ≤ 50 := by rw [show (50 : Int) = ((50 : Nat) : Int) from rfl, ltI_nat] at hb3; simpa using hb3
          simp [cdL_seq, cdL_region, cdL_drawn, cdL_cond, cdL_block, cdL_skip, cdL_label, cdL_exit, cdL_ret, endL, evSeq, evOne, evAct, evOp, opKind, evPure, evRead, evNew, evWrite, evSlice, natOf, optVal, readAt, AV.cells, wantedA, putTm, val, allVals, evBin, evInt, evStr, evAppend, denseFrom, sizesAre, onesIn, evPlan, recheck, AV.beq_refl, H.new, H.put, fillF, fillAt, allOne, AV.one, setArgs, evRes, resOf, ofVal, ofVal0, blt_dec, ble_dec, beq_dec, T.get_set_ite, T.get_e, isShift, ikBeq, ty_0, ty_1, ty_2, ty_3, ty_4, ty_5, ty_6, ty_7, ty_8, ty_9, ty_10, ty_11, ty_12, ty_13, ty_14, ty_15, ty_16, ty_17, ty_18, ty_19, ty_20, ty_21, ty_22, ty_23, ty_24, ty_25, ty_26, ty_27, ty_28, ty_29, ty_30, ty_31, ty_32, ty_33, ty_34, ty_35, ty_36, ty_37, ty_38, ty_39, ty_40, ty_41, ty_42, ty_43, ty_44, ty_45, ty_46, ty_47, ty_48, ty_49, ty_50, ty_51, ty_52, ty_53, ty_54, ty_55, ty_56, ty_57, ty_58, ty_59, ty_60, ty_61, ty_62, ty_63, ty_64, ty_65, ty_66, ty_67, ty_68, ty_69, ty_70, ty_71, ty_72, ty_73, ty_74, ty_75, ty_76, ty_77, ty_78, ty_79, ty_80, ty_81, ty_82, ty_83, ty_84, ty_85, ty_86, ty_87, ty_88, ty_89, ty_90, pl_4_17, pl_7_6, pl_10_6, pl_15_6, pl_18_3, pl_28_5, pl_43_9, pl_43_18, pl_44_9, e11ty, e11pl, hb1, hb2, hb3, w9, q1]
          generalize hx : cdL env11 4 92 (.loop b4_0) _ _ = x
          obtain ⟨tm', rfl, ⟨g1, g5, g8, g9⟩⟩ := loop4_0 (s := s) (n := n) (r := .sl .no (l' ++ [endTok s])) hn hle n 0 hx (by omega) ⟨by simp [T.get_set_ite], by simp [T.get_set_ite], by simp [T.get_set_ite, blks], by simp [T.get_set_ite]⟩
          have hA := lx_ahead (blks_blank n) hq
          have hll : (blks n ++ s).length = n + s.length := by simp [blks_len]
          have h20 : ltI 2000 ↑(n + s.length) = false := ltI_f (a := 2000) (by omega)
          have w8' := fun h => w8 (blks n ++ s) h
          unfold toks at w8'
          rw [hA, hll, h20] at w8'
          simp only [cond_false, blks_len] at w8'
          have hend : endTok (blks n ++ s) = sh n (endTok s) := by unfold endTok; rw [hll, sh_tok]
          rw [hend] at w8'
          have hmap : l'.map (sh n) ++ [sh n (endTok s)] = (l' ++ [endTok s]).map (sh n) := by simp
          rw [hmap] at w8'
          have hlm : ((l' ++ [endTok s]).map (sh n)).length = (l' ++ [endTok s]).length := List.length_map ..
          have hlen := lx_len (s.length + 1) 0 [] l' (Nat.le_refl 0) (Nat.zero_le _) hq
          have hg := lx_tokN (s.length + 1) 0 [] l' (fun t h => by simp at h) hq
          have hG : ∀ t ∈ l' ++ [endTok s], tokN s.length t := fun t h => by
            rcases List.mem_append.1 h with h | h
            · exact hg t h
            · rw [List.mem_singleton.1 h]
              exact ⟨_, _, _, s.length, Nat.le_refl _, rfl⟩
          have hLl : (l' ++ [endTok s]).length ≤ 100000 := by simp; omega
          generalize l' ++ [endTok s] = L at *
          have hw : wr .i64 (↑n + ↑s.length) = ↑n + ↑s.length := by rw [wr_eq]; exact wrap_i64_in (by omega) (by omega)
          simp [cdL_seq, cdL_region, cdL_drawn, cdL_cond, cdL_block, cdL_skip, cdL_label, cdL_exit, cdL_ret, endL, evSeq, evOne, evAct, evOp, opKind, evPure, evRead, evNew, evWrite, evSlice, natOf, optVal, readAt, AV.cells, wantedA, putTm, val, allVals, evBin, evInt, evStr, evAppend, denseFrom, sizesAre, onesIn, evPlan, recheck, AV.beq_refl, H.new, H.put, fillF, fillAt, allOne, AV.one, setArgs, evRes, resOf, ofVal, ofVal0, blt_dec, ble_dec, beq_dec, T.get_set_ite, T.get_e, isShift, ikBeq, ty_0, ty_1, ty_2, ty_3, ty_4, ty_5, ty_6, ty_7, ty_8, ty_9, ty_10, ty_11, ty_12, ty_13, ty_14, ty_15, ty_16, ty_17, ty_18, ty_19, ty_20, ty_21, ty_22, ty_23, ty_24, ty_25, ty_26, ty_27, ty_28, ty_29, ty_30, ty_31, ty_32, ty_33, ty_34, ty_35, ty_36, ty_37, ty_38, ty_39, ty_40, ty_41, ty_42, ty_43, ty_44, ty_45, ty_46, ty_47, ty_48, ty_49, ty_50, ty_51, ty_52, ty_53, ty_54, ty_55, ty_56, ty_57, ty_58, ty_59, ty_60, ty_61, ty_62, ty_63, ty_64, ty_65, ty_66, ty_67, ty_68, ty_69, ty_70, ty_71, ty_72, ty_73, ty_74, ty_75, ty_76, ty_77, ty_78, ty_79, ty_80, ty_81, ty_82, ty_83, ty_84, ty_85, ty_86, ty_87, ty_88, ty_89, ty_90, pl_4_17, pl_7_6, pl_10_6, pl_15_6, pl_18_3, pl_28_5, pl_43_9, pl_43_18, pl_44_9, e11ty, e11pl, g1, g5, g8, g9, w8', q1, blks_len]
          generalize hx : cdL env11 4 92 (.loop b4_1) _ _ = x
          obtain ⟨tm2, h2, rfl⟩ := loop4_1 (L := L) (n := n) (m := s.length) (o1 := .no) (o2 := .no) hn (by omega) hLl hG L 0 hx rfl (Nat.zero_le _) ⟨by simp [T.get_set_ite, g1], by simp [T.get_set_ite, g5], by simp [T.get_set_ite], by simp [T.get_set_ite]⟩
          simp [cdL_seq, cdL_region, cdL_drawn, cdL_cond, cdL_block, cdL_skip, cdL_label, cdL_exit, cdL_ret, endL, evSeq, evOne, evAct, evOp, opKind, evPure, evRead, evNew, evWrite, evSlice, natOf, optVal, readAt, AV.cells, wantedA, putTm, val, allVals, evBin, evInt, evStr, evAppend, denseFrom, sizesAre, onesIn, evPlan, recheck, AV.beq_refl, H.new, H.put, fillF, fillAt, allOne, AV.one, setArgs, evRes, resOf, ofVal, ofVal0, blt_dec, ble_dec, beq_dec, T.get_set_ite, T.get_e, isShift, ikBeq, ty_0, ty_1, ty_2, ty_3, ty_4, ty_5, ty_6, ty_7, ty_8, ty_9, ty_10, ty_11, ty_12, ty_13, ty_14, ty_15, ty_16, ty_17, ty_18, ty_19, ty_20, ty_21, ty_22, ty_23, ty_24, ty_25, ty_26, ty_27, ty_28, ty_29, ty_30, ty_31, ty_32, ty_33, ty_34, ty_35, ty_36, ty_37, ty_38, ty_39, ty_40, ty_41, ty_42, ty_43, ty_44, ty_45, ty_46, ty_47, ty_48, ty_49, ty_50, ty_51, ty_52, ty_53, ty_54, ty_55, ty_56, ty_57, ty_58, ty_59, ty_60, ty_61, ty_62, ty_63, ty_64, ty_65, ty_66, ty_67, ty_68, ty_69, ty_70, ty_71, ty_72, ty_73, ty_74, ty_75, ty_76, ty_77, ty_78, ty_79, ty_80, ty_81, ty_82, ty_83, ty_84, ty_85, ty_86, ty_87, ty_88, ty_89, ty_90, pl_4_17, pl_7_6, pl_10_6, pl_15_6, pl_18_3, pl_28_5, pl_43_9, pl_43_18, pl_44_9, e11ty, e11pl, e11_11]
    · rw [hq] at w9
      cases hb2 : ltI z 0 <;> cases hb3 : ltI 50 z <;> simp [cdL_seq, cdL_region, cdL_drawn, cdL_cond, cdL_block, cdL_skip, cdL_label, cdL_exit, cdL_ret, endL, evSeq, evOne, evAct, evOp, opKind, evPure, evRead, evNew, evWrite, evSlice, natOf, optVal, readAt, AV.cells, wantedA, putTm, val, allVals, evBin, evInt, evStr, evAppend, denseFrom, sizesAre, onesIn, evPlan, recheck, AV.beq_refl, H.new, H.put, fillF, fillAt, allOne, AV.one, setArgs, evRes, resOf, ofVal, ofVal0, blt_dec, ble_dec, beq_dec, T.get_set_ite, T.get_e, isShift, ikBeq, ty_0, ty_1, ty_2, ty_3, ty_4, ty_5, ty_6, ty_7, ty_8, ty_9, ty_10, ty_11, ty_12, ty_13, ty_14, ty_15, ty_16, ty_17, ty_18, ty_19, ty_20, ty_21, ty_22, ty_23, ty_24, ty_25, ty_26, ty_27, ty_28, ty_29, ty_30, ty_31, ty_32, ty_33, ty_34, ty_35, ty_36, ty_37, ty_38, ty_39, ty_40, ty_41, ty_42, ty_43, ty_44, ty_45, ty_46, ty_47, ty_48, ty_49, ty_50, ty_51, ty_52, ty_53, ty_54, ty_55, ty_56, ty_57, ty_58, ty_59, ty_60, ty_61, ty_62, ty_63, ty_64, ty_65, ty_66, ty_67, ty_68, ty_69, ty_70, ty_71, ty_72, ty_73, ty_74, ty_75, ty_76, ty_77, ty_78, ty_79, ty_80, ty_81, ty_82, ty_83, ty_84, ty_85, ty_86, ty_87, ty_88, ty_89, ty_90, pl_4_17, pl_7_6, pl_10_6, pl_15_6, pl_18_3, pl_28_5, pl_43_9, pl_43_18, pl_44_9, e11ty, e11pl, hb1, hb2, hb3, w9, q2]
end Go.Proofs.YtiifjjcoepgobaaDoor.Env
