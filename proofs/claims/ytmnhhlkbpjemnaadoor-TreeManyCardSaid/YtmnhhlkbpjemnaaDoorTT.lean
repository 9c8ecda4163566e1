/- One token is the whole text: in plain words, and what the tree asks of it. -/
import Derived.Test.YtmnhhlkbpjemnaaDoorTO
set_option autoImplicit false
set_option maxRecDepth 100000
set_option linter.unusedSimpArgs false
set_option linter.unusedVariables false
namespace Go.Proofs.YtmnhhlkbpjemnaaDoor.Lx
open Go.Ev Go.Proofs.YtmnhhlkbpjemnaaDoor.Env

def tokOne (t : AV) (name : List Nat) (k : Int) : Bool := match t with
  | .agg [.int _ x1, .str x2, _, .int _ x4] => intBeq x1 k && (natsBeq x2 name && intBeq x4 0)
  | _ => false
def oneL (s name : List Nat) (k : Int) : List AV × Option Nat → Bool
  | ([t], none) => tokOne t name k && !ltI 2 (↑s.length - ↑name.length)
  | _ => false
def oneF (s name : List Nat) (k : Int) : Bool := !ltI 2000 ↑s.length && oneL s name k (lx (s.length + 1) s 0 [])
def tokFrom (i : Nat) (t : AV) : Prop := ∃ (x1 : Int) (x2 : List Nat) (x3 : Int) (x4 : Nat), t = .agg [.int .i64 x1, .str x2, .int .i64 x3, .int .i64 ↑x4] ∧ i ≤ x4
def tokOf : AV → Option (AV × Nat)
  | .tup [t, .int .i64 (.ofNat n), .bool true] => some (t, n)
  | _ => none
theorem tokAt_def (s : List Nat) (i : Nat) : tokAt s i = tokOf (tokRes s i) := rfl
theorem tokOf_tok {k : Int} {x : List Nat} {m a j : Int} {b : Bool} {t : AV} {n : Nat} (h : tokOf (.tup [tokA k x m a, .int .i64 j, .bool b]) = some (t, n)) : t = tokA k x m a := by
  cases j with
  | negSucc j => simp [tokOf] at h
  | ofNat j =>
    cases b with
    | false => simp [tokOf] at h
    | true => simp only [tokOf, Option.some.injEq, Prod.mk.injEq] at h; exact h.1.symm
/-- A token's kind: 1 or 4 of what begins with a letter. -/
theorem tokRes_kind {s : List Nat} {i c : Nat} (hc : s[i]? = some c) : ∃ (k : Int) (x : List Nat) (m a j : Int) (b : Bool), tokRes s i = .tup [tokA k x m a, .int .i64 j, .bool b] ∧ (b = true → a = ↑i) ∧ (pLetter ↑c = false → k ≠ 1) := by
  unfold tokRes
  rw [hc]
  simp only
  cases h1 : pLetter ↑c with
  | true => exact ⟨_, _, _, _, _, _, rfl, fun _ => rfl, fun e => by cases e⟩
  | false =>
    cases h2 : pDigit ↑c with
    | true =>
      simp only [cond_true, cond_false]
      unfold numRes
      cases numBad s i (cnt pDigit (s.drop i))
      · exact ⟨_, _, _, _, _, _, rfl, fun _ => rfl, fun _ => by decide⟩
      · exact ⟨_, _, _, _, _, _, rfl, fun _ => rfl, fun _ => by decide⟩
    | false =>
      cases h3 : intBeq ↑c 34 with
      | true => exact ⟨_, _, _, _, _, _, rfl, fun _ => rfl, fun _ => by decide⟩
      | false =>
        simp only [cond_false]
        unfold signRes
        cases hf : firstF (s.drop i) signsL with
        | none => exact ⟨_, _, _, _, _, _, rfl, fun e => by simp at e, fun _ => by decide⟩
        | some w => exact ⟨_, _, _, _, _, _, rfl, fun _ => rfl, fun _ => by decide⟩
theorem tokAt_get {s : List Nat} {i n : Nat} {t : AV} (h : tokAt s i = some (t, n)) : ∃ (c : Nat) (k : Int) (x : List Nat) (m : Int), s[i]? = some c ∧ t = tokA k x m ↑i ∧ (pLetter ↑c = false → k ≠ 1) := by
  rw [tokAt_def] at h
  cases hc : s[i]? with
  | none => unfold tokRes at h; rw [hc] at h; simp [tokOf] at h
  | some c =>
    obtain ⟨k, x, m, a, j, b, e, ha, hk⟩ := tokRes_kind hc
    rw [e] at h
    have ht := tokOf_tok h
    cases b with
    | false => cases j <;> simp [tokOf] at h
    | true => exact ⟨c, k, x, m, rfl, by rw [ht, ha rfl], hk⟩
theorem tokAt_at {s : List Nat} {i n : Nat} {t : AV} (h : tokAt s i = some (t, n)) : tokFrom i t := by
  obtain ⟨c, k, x, m, _, rfl, _⟩ := tokAt_get h
  exact ⟨_, _, _, _, rfl, Nat.le_refl _⟩
theorem lx_ext {s : List Nat} : ∀ (f i : Nat) (l l' : List AV), lx f s i l = (l', none) → ∃ r, l' = l ++ r ∧ ∀ t ∈ r, tokFrom i t
  | 0, i, l, l', h => by simp only [lx, Prod.mk.injEq] at h; exact ⟨[], by simp [h.1], by simp⟩
  | f + 1, i, l, l', h => by
    simp only [lx] at h
    cases hc : s[i]? with
    | none => rw [hc] at h; simp only [Prod.mk.injEq] at h; exact ⟨[], by simp [h.1], by simp⟩
    | some c =>
      rw [hc] at h
      simp only at h
      cases hb : isBlank c with
      | true =>
        rw [hb] at h
        obtain ⟨r, h1, h2⟩ := lx_ext f _ _ _ h
        refine ⟨r, h1, fun t ht => ?_⟩
        obtain ⟨x1, x2, x3, x4, e, hx⟩ := h2 t ht
        exact ⟨x1, x2, x3, x4, e, by omega⟩
      | false =>
        rw [hb] at h
        simp only [cond_false] at h
        cases ht : tokAt s i with
        | none => rw [ht] at h; simp at h
        | some p =>
          obtain ⟨t, n⟩ := p
          rw [ht] at h
          obtain ⟨r, h1, h2⟩ := lx_ext f _ _ _ h
          refine ⟨t :: r, by simp [h1], fun u hu => ?_⟩
          rcases List.mem_cons.1 hu with rfl | hu
          · exact tokAt_at ht
          · obtain ⟨x1, x2, x3, x4, e, hx⟩ := h2 u hu
            exact ⟨x1, x2, x3, x4, e, by omega⟩
/-- Behind a first token: only that one counts. -/
theorem one_first {s name : List Nat} {k : Int} {f n : Nat} {t : AV} (hb : oneL s name k (lx f s n [t]) = true) : tokOne t name k = true ∧ ltI 2 (↑s.length - ↑name.length) = false := by
  rcases hq : lx f s n [t] with ⟨l', _ | j⟩
  · obtain ⟨r, h1, _⟩ := lx_ext f _ _ _ hq
    rw [hq, h1] at hb
    cases r with
    | nil => simpa [oneL] using hb
    | cons u r => simp [oneL] at hb
  · rw [hq] at hb
    cases l' with
    | nil => simp [oneL] at hb
    | cons u r => cases r <;> simp [oneL] at hb
theorem one_end {s name : List Nat} {k : Int} {f : Nat} {t : AV} (hf : 0 < f) : oneL s name k (lx f s s.length [t]) = (tokOne t name k && !ltI 2 (↑s.length - ↑name.length)) := by
  obtain ⟨g, rfl⟩ : ∃ g, f = g + 1 := ⟨f - 1, by omega⟩
  simp only [lx, List.getElem?_eq_none (Nat.le_refl s.length)]
  rfl
theorem one_later {s name : List Nat} {k : Int} {f i : Nat} (hi : 0 < i) : oneL s name k (lx f s i []) = false := by
  cases hb : oneL s name k (lx f s i []) with
  | false => rfl
  | true =>
    exfalso
    rcases hq : lx f s i [] with ⟨l', _ | j⟩
    · obtain ⟨r, h1, h2⟩ := lx_ext f _ _ _ hq
      rw [hq, h1] at hb
      simp only [List.nil_append] at hb h1
      match r, hb, h2 with
      | [], hb, _ => simp [oneL] at hb
      | [t], hb, h2 =>
        obtain ⟨x1, x2, x3, x4, rfl, hx⟩ := h2 t (List.mem_singleton.2 rfl)
        simp only [oneL, tokOne, Bool.and_eq_true] at hb
        have := intBeq_iff'.1 hb.1.2.2
        omega
      | _ :: _ :: _, hb, _ => simp [oneL] at hb
    · rw [hq] at hb
      cases l' with
      | nil => simp [oneL] at hb
      | cons u r => cases r <;> simp [oneL] at hb
theorem beqI_no {a b : Int} (h : a ≠ b) : intBeq a b = false := by cases hb : intBeq a b with | false => rfl | true => exact absurd (intBeq_iff'.1 hb) h
theorem cnt_full {q : Int → Bool} : ∀ {l : List Nat}, l.all (fun c => q ↑c) = true → cnt q l = l.length
  | [], _ => rfl
  | c :: l, h => by
    simp only [List.all_cons, Bool.and_eq_true] at h
    simp only [cnt, h.1, cond_true, cnt_full h.2, List.length_cons]
theorem letter_more {c : Int} (h : pLetter c = true) : pMore c = true := by simp [pMore, h]
theorem letter_blank {c : Nat} (h : pLetter ↑c = true) : isBlank c = false := by
  simp only [pLetter, Bool.and_eq_true, Bool.not_eq_true', ltI_eq] at h
  simp only [decide_eq_false_iff_not] at h
  simp only [isBlank, Bool.or_eq_false_iff]
  exact ⟨beqI_no (by omega), beqI_no (by omega), beqI_no (by omega)⟩
theorem one_name (s : List Nat) : oneF s s 1 = nameF s := by
  unfold oneF
  cases s with
  | nil => rfl
  | cons c l =>
    simp only [nameF]
    rw [show lx ((c :: l).length + 1) (c :: l) 0 [] = (bif isBlank c then lx (c :: l).length (c :: l) (0 + 1) [] else match tokAt (c :: l) 0 with | some (t, n) => lx (c :: l).length (c :: l) (0 + n) ([] ++ [t]) | none => ([], some 0)) from rfl]
    cases h1 : pLetter ↑c with
    | true =>
      have hm := letter_more h1
      rw [letter_blank h1]
      simp only [cond_false, Bool.true_and]
      have htr : tokRes (c :: l) 0 = nameRes (c :: l) 0 := by unfold tokRes; simp [h1]
      have hcn : cnt pMore (c :: l) = 1 + cnt pMore l := by simp only [cnt, hm, cond_true]; omega
      have hta : tokAt (c :: l) 0 = bif ltI 12 ↑(1 + cnt pMore l) then none else some (tokA (nameKind ((c :: l).take (1 + cnt pMore l))) ((c :: l).take (1 + cnt pMore l)) 0 0, 1 + cnt pMore l) := by
        unfold tokAt
        rw [htr]
        unfold nameRes
        rw [List.drop_zero, hcn]
        cases ltI 12 ↑(1 + cnt pMore l) <;> rfl
      rw [hta]
      have hle := cnt_le pMore l
      generalize hn : 1 + cnt pMore l = n at *
      cases h2 : ltI 12 ↑n with
      | true => simp [oneL]
      | false =>
        have h12 : n ≤ 12 := by rw [show (12 : Int) = ((12 : Nat) : Int) from rfl, ltI_nat] at h2; simpa using h2
        simp only [cond_false, List.nil_append, Nat.zero_add, Bool.not_false, Bool.true_and]
        by_cases he : n = (c :: l).length
        · subst he
          have h20 : ltI 2000 ↑(c :: l).length = false := by rw [show (2000 : Int) = ((2000 : Nat) : Int) from rfl, ltI_nat]; simp; simp at h12; omega
          rw [h20, one_end (by simp), List.take_length, intBeq_iff'.2 (rfl : (↑(c :: l).length : Int) = _)]
          simp only [Int.sub_self, tokA, tokOne, natsBeq_iff.2 (rfl : (c :: l) = _), nameKind, hasF_isW, Bool.not_false, Bool.true_and, Bool.and_true]
          cases isW (c :: l) <;> rfl
        · have hl : intBeq (↑n : Int) ↑(c :: l).length = false := beqI_no (by omega)
          rw [hl, Bool.and_false]
          cases hb : oneL (c :: l) (c :: l) 1 (lx (c :: l).length (c :: l) n [tokA (nameKind ((c :: l).take n)) ((c :: l).take n) 0 0]) with
          | false => simp
          | true =>
            exfalso
            have := (one_first hb).1
            simp only [tokA, tokOne, Bool.and_eq_true, natsBeq_iff] at this
            have := congrArg List.length this.2.1
            simp only [List.length_take, List.length_cons] at this he hle
            omega
    | false =>
      simp only [Bool.false_and]
      cases h2 : isBlank c with
      | true => simp only [cond_true]; rw [one_later (by omega), Bool.and_false]
      | false =>
        simp only [cond_false]
        cases ht : tokAt (c :: l) 0 with
        | none => simp [oneL]
        | some p =>
          obtain ⟨t, n⟩ := p
          simp only [List.nil_append]
          cases hb : oneL (c :: l) (c :: l) 1 (lx (c :: l).length (c :: l) (0 + n) [t]) with
          | false => simp
          | true =>
            exfalso
            have := (one_first hb).1
            obtain ⟨c', k, x, m, hc', rfl, hk⟩ := tokAt_get ht
            simp only [List.getElem?_cons_zero, Option.some.injEq] at hc'
            subst hc'
            simp only [tokA, tokOne, Bool.and_eq_true] at this
            exact hk h1 (intBeq_iff'.1 this.1)
theorem one_text (p : List Nat) : oneF (34 :: (p ++ [34])) p 3 = okT p := by
  unfold oneF
  have hlen : (34 :: (p ++ [34])).length = p.length + 2 := by simp
  rw [show lx ((34 :: (p ++ [34])).length + 1) (34 :: (p ++ [34])) 0 [] = (match tokAt (34 :: (p ++ [34])) 0 with | some (t, n) => lx (34 :: (p ++ [34])).length (34 :: (p ++ [34])) (0 + n) ([] ++ [t]) | none => ([], some 0)) from rfl]
  have hta : tokAt (34 :: (p ++ [34])) 0 = bif okText (34 :: (p ++ [34])) (1 + cnt pPlain (p ++ [34])) (cnt pPlain (p ++ [34])) then some (tokA 3 ((p ++ [34]).take (cnt pPlain (p ++ [34]))) 0 0, cnt pPlain (p ++ [34]) + 2) else none := by
    unfold tokAt
    rw [show tokRes (34 :: (p ++ [34])) 0 = textRes (34 :: (p ++ [34])) 0 from rfl]
    unfold textRes
    simp only [Nat.zero_add, List.drop_succ_cons, List.drop_zero]
    cases okText (34 :: (p ++ [34])) (1 + cnt pPlain (p ++ [34])) (cnt pPlain (p ++ [34])) <;> rfl
  rw [hta]
  have h34 : pPlain ((34 : Nat) : Int) = false := rfl
  cases ha : allP p with
  | true =>
    have hm : cnt pPlain (p ++ [34]) = p.length := cnt_is (c := 34) (by rw [List.take_left]; exact ha) (by simp) h34
    rw [hm, List.take_left]
    have hk : okText (34 :: (p ++ [34])) (1 + p.length) p.length = !ltI 40 ↑p.length := by
      unfold okText
      rw [show (34 :: (p ++ [34]))[1 + p.length]? = some 34 by rw [Nat.add_comm, List.getElem?_cons_succ]; simp]
      simp [show intBeq ((34 : Nat) : Int) 34 = true from rfl, show intBeq (34 : Int) 34 = true from rfl]
    rw [hk]
    unfold okT
    rw [ha]
    cases h4 : ltI 40 ↑p.length with
    | true => simp [oneL]
    | false =>
      have h40 : p.length ≤ 40 := by rw [show (40 : Int) = ((40 : Nat) : Int) from rfl, ltI_nat] at h4; simpa using h4
      have h20 : ltI 2000 ↑(34 :: (p ++ [34])).length = false := by rw [hlen, show (2000 : Int) = ((2000 : Nat) : Int) from rfl, ltI_nat]; simp; omega
      have h2 : ltI 2 (↑(34 :: (p ++ [34])).length - ↑p.length) = false := by rw [hlen, show (↑(p.length + 2) - ↑p.length : Int) = 2 by push_cast; omega]; rfl
      simp only [Bool.not_false, cond_true, List.nil_append, Nat.zero_add, Bool.true_and, h20]
      rw [show p.length + 2 = (34 :: (p ++ [34])).length from hlen.symm, one_end (by simp), h2]
      simp [tokOne, tokA, natsBeq_iff.2 (rfl : p = _), intBeq]
  | false =>
    unfold okT
    rw [ha, Bool.false_and]
    cases hk : okText (34 :: (p ++ [34])) (1 + cnt pPlain (p ++ [34])) (cnt pPlain (p ++ [34])) with
    | false => simp [oneL]
    | true =>
      simp only [cond_true, List.nil_append]
      cases hb : oneL (34 :: (p ++ [34])) p 3 (lx (34 :: (p ++ [34])).length (34 :: (p ++ [34])) (0 + (cnt pPlain (p ++ [34]) + 2)) [tokA 3 ((p ++ [34]).take (cnt pPlain (p ++ [34]))) 0 0]) with
      | false => simp
      | true =>
        exfalso
        have := (one_first hb).1
        simp only [tokA, tokOne, Bool.and_eq_true, natsBeq_iff] at this
        have h5 := cnt_take pPlain (p ++ [34])
        rw [this.2.1] at h5
        unfold allP at ha
        rw [h5] at ha
        cases ha
end Go.Proofs.YtmnhhlkbpjemnaaDoor.Lx
/- The tree's isOne and isName, walked. -/
set_option autoImplicit false
set_option maxRecDepth 100000
set_option maxHeartbeats 2000000
set_option linter.unusedSimpArgs false
set_option linter.unusedVariables false
namespace Go.Proofs.YtmnhhlkbpjemnaaDoor.Lx
open Go.Ev Go.Proofs.YtmnhhlkbpjemnaaDoor.Env

noncomputable abbrev pToks := primPure (pS (fun _ => true) toks)
theorem p59_ok : PrimOk Tryd.prog 59 pToks := by
  refine pureL_ok env7_ok Tryd.func59 (by kernel_rfl) (by kernel_rfl) fun args v hv => ?_
  unfold pS at hv
  split at hv
  · rename_i s
    simp only [cond_true, Option.some.injEq] at hv
    subst hv
    obtain ⟨v', h1, e, h2, h3⟩ := toks_run s
    exact ⟨_, h1, e, h2, h3⟩
  · simp at hv
noncomputable def env10 : Env := addPrim env9 59 pToks
theorem env10_ok : EnvOk Tryd.prog env10 := addPrim_ok env9_ok p59_ok
theorem e10_59 (s : List Nat) (h : H) : evL env10 59 [.str s] h = some (toks s, h) := pS_call (r := toks) (q := fun _ => true) (by kernel_rfl) h s rfl
theorem body44 : Tryd.f44.body = some (codeAt Tryd.f44 []) := rfl
theorem one44_run (s name : List Nat) (k : Int) (hs : s.length < 140737488355328) (hn : name.length < 140737488355328) : ∃ h1, evL env10 44 [.str s, .str name, .int .i64 k] ⟨.e, 0⟩ = some (.bool (oneF s name k), h1) := by
  have hty : env10.ty = env.ty := rfl
  have hpl : env10.plan = env.plan := rfl
  have k59 := e10_59 s
  have hw : wr .i64 (Int.sub ↑s.length ↑name.length) = ↑s.length - ↑name.length := wrI (by show _ ≤ (↑s.length - ↑name.length : Int); omega) (by show (↑s.length - ↑name.length : Int) < _; omega)
  rw [evL_fn env10 (by kernel_rfl) (by kernel_rfl) body44 _ _ rfl]
  unfold oneF
  unfold toks at k59
  have i70 : intBeq 7 0 = false := rfl
  have i20 : intBeq 2 0 = false := rfl
  have i00 : intBeq 0 0 = true := rfl
  have i12 : intBeq 1 2 = false := rfl
  have i22 : intBeq 2 2 = true := rfl
  cases hb : ltI 2000 ↑s.length with
  | true =>
    rw [hb] at k59
    simp only [cond_true] at k59
    simp only [codeAt, sub, Tryd.f44]
    simp [cdL_seq, cdL_region, cdL_drawn, cdL_cond, cdL_block, cdL_skip, cdL_label, cdL_exit, cdL_ret, endL, evSeq, evOne, evAct, evOp, opKind, evPure, evRead, evNew, evWrite, evSlice, natOf, optVal, readAt, AV.cells, wantedA, putTm, val, allVals, evBin, evInt, evStr, evAppend, evMin, denseFrom, sizesAre, onesIn, evPlan, recheck, AV.beq_refl, H.new, H.put, fillF, fillAt, allOne, AV.one, setArgs, evRes, resOf, ofVal, ofVal0, blt_dec, ble_dec, beq_dec, T.get_set_ite, T.get_e, isShift, ikBeq, ty_0, ty_1, ty_2, ty_3, ty_4, ty_5, ty_6, ty_7, ty_8, ty_9, ty_10, ty_11, ty_12, ty_13, ty_14, ty_15, ty_16, ty_17, ty_18, ty_19, ty_20, ty_21, ty_22, ty_23, ty_24, ty_25, ty_26, ty_27, ty_28, ty_29, ty_30, ty_31, ty_32, ty_33, ty_34, ty_35, ty_36, ty_37, ty_38, ty_39, ty_40, ty_41, ty_42, ty_43, ty_44, ty_45, ty_46, ty_47, ty_48, ty_49, ty_50, ty_51, ty_52, ty_53, ty_54, ty_55, ty_56, ty_57, ty_58, ty_59, ty_60, ty_61, ty_62, ty_63, ty_64, ty_65, ty_66, ty_67, ty_68, ty_69, ty_70, ty_71, ty_72, ty_73, ty_74, ty_75, ty_76, ty_77, ty_78, ty_79, ty_80, ty_81, ty_82, ty_83, ty_84, ty_85, ty_86, ty_87, ty_88, ty_89, ty_90, ty_91, ty_92, ty_93, ty_94, ty_95, ty_96, ty_97, ty_98, ty_99, ty_100, ty_101, ty_102, ty_103, ty_104, ty_105, ty_106, ty_107, ty_108, ty_109, ty_110, ty_111, ty_112, ty_113, ty_114, ty_115, ty_116, ty_117, ty_118, ty_119, ty_120, ty_121, ty_122, ty_123, ty_124, ty_125, ty_126, ty_127, ty_128, ty_129, pl_3_4, pl_4_3, pl_6_5, pl_9_1, pl_14_6, pl_18_6, pl_20_1, pl_29_6, pl_29_11, pl_30_3, pl_30_5, pl_30_9, pl_33_1, pl_33_10, pl_38_17, pl_46_4, pl_46_6, pl_47_10, pl_48_10, pl_50_3, pl_51_5, pl_51_11, pl_51_16, pl_51_17, pl_51_22, pl_51_23, pl_53_1, pl_53_3, pl_53_5, pl_53_8, pl_54_1, pl_54_3, pl_54_5, pl_54_8, pl_54_10, pl_54_13, pl_54_15, pl_54_18, pl_54_21, pl_60_3, pl_60_5, pl_60_6, pl_62_1, pl_62_2, pl_62_3, pl_69_1, pl_72_3, pl_88_9, pl_88_18, pl_89_9, hty, hpl, k59, i70]
  | false =>
    rw [hb] at k59
    simp only [cond_false] at k59
    rcases hq : lx (s.length + 1) s 0 [] with ⟨l, _ | j⟩
    · rw [hq] at k59
      have hg := lx_good _ _ _ _ (fun t ht => by simp at ht) hq
      simp only at k59
      match l, hg with
      | [], _ =>
        simp only [codeAt, sub, Tryd.f44]
        simp [cdL_seq, cdL_region, cdL_drawn, cdL_cond, cdL_block, cdL_skip, cdL_label, cdL_exit, cdL_ret, endL, evSeq, evOne, evAct, evOp, opKind, evPure, evRead, evNew, evWrite, evSlice, natOf, optVal, readAt, AV.cells, wantedA, putTm, val, allVals, evBin, evInt, evStr, evAppend, evMin, denseFrom, sizesAre, onesIn, evPlan, recheck, AV.beq_refl, H.new, H.put, fillF, fillAt, allOne, AV.one, setArgs, evRes, resOf, ofVal, ofVal0, blt_dec, ble_dec, beq_dec, T.get_set_ite, T.get_e, isShift, ikBeq, ty_0, ty_1, ty_2, ty_3, ty_4, ty_5, ty_6, ty_7, ty_8, ty_9, ty_10, ty_11, ty_12, ty_13, ty_14, ty_15, ty_16, ty_17, ty_18, ty_19, ty_20, ty_21, ty_22, ty_23, ty_24, ty_25, ty_26, ty_27, ty_28, ty_29, ty_30, ty_31, ty_32, ty_33, ty_34, ty_35, ty_36, ty_37, ty_38, ty_39, ty_40, ty_41, ty_42, ty_43, ty_44, ty_45, ty_46, ty_47, ty_48, ty_49, ty_50, ty_51, ty_52, ty_53, ty_54, ty_55, ty_56, ty_57, ty_58, ty_59, ty_60, ty_61, ty_62, ty_63, ty_64, ty_65, ty_66, ty_67, ty_68, ty_69, ty_70, ty_71, ty_72, ty_73, ty_74, ty_75, ty_76, ty_77, ty_78, ty_79, ty_80, ty_81, ty_82, ty_83, ty_84, ty_85, ty_86, ty_87, ty_88, ty_89, ty_90, ty_91, ty_92, ty_93, ty_94, ty_95, ty_96, ty_97, ty_98, ty_99, ty_100, ty_101, ty_102, ty_103, ty_104, ty_105, ty_106, ty_107, ty_108, ty_109, ty_110, ty_111, ty_112, ty_113, ty_114, ty_115, ty_116, ty_117, ty_118, ty_119, ty_120, ty_121, ty_122, ty_123, ty_124, ty_125, ty_126, ty_127, ty_128, ty_129, pl_3_4, pl_4_3, pl_6_5, pl_9_1, pl_14_6, pl_18_6, pl_20_1, pl_29_6, pl_29_11, pl_30_3, pl_30_5, pl_30_9, pl_33_1, pl_33_10, pl_38_17, pl_46_4, pl_46_6, pl_47_10, pl_48_10, pl_50_3, pl_51_5, pl_51_11, pl_51_16, pl_51_17, pl_51_22, pl_51_23, pl_53_1, pl_53_3, pl_53_5, pl_53_8, pl_54_1, pl_54_3, pl_54_5, pl_54_8, pl_54_10, pl_54_13, pl_54_15, pl_54_18, pl_54_21, pl_60_3, pl_60_5, pl_60_6, pl_62_1, pl_62_2, pl_62_3, pl_69_1, pl_72_3, pl_88_9, pl_88_18, pl_89_9, hty, hpl, k59, oneL, i00, i12]
      | [t], hg =>
        obtain ⟨x1, x2, x3, x4, rfl⟩ := hg t (List.mem_singleton.2 rfl)
        have hee : intBeq (↑s.length : Int) ↑s.length = true := intBeq_iff'.2 rfl
        simp only [endTok, tokA, List.cons_append, List.nil_append] at k59
        simp only [codeAt, sub, Tryd.f44]
        cases h1 : intBeq x1 k <;> cases h2 : natsBeq x2 name <;> cases h3 : intBeq x4 0 <;> cases h4 : ltI 2 (↑s.length - ↑name.length) <;> simp [cdL_seq, cdL_region, cdL_drawn, cdL_cond, cdL_block, cdL_skip, cdL_label, cdL_exit, cdL_ret, endL, evSeq, evOne, evAct, evOp, opKind, evPure, evRead, evNew, evWrite, evSlice, natOf, optVal, readAt, AV.cells, wantedA, putTm, val, allVals, evBin, evInt, evStr, evAppend, evMin, denseFrom, sizesAre, onesIn, evPlan, recheck, AV.beq_refl, H.new, H.put, fillF, fillAt, allOne, AV.one, setArgs, evRes, resOf, ofVal, ofVal0, blt_dec, ble_dec, beq_dec, T.get_set_ite, T.get_e, isShift, ikBeq, ty_0, ty_1, ty_2, ty_3, ty_4, ty_5, ty_6, ty_7, ty_8, ty_9, ty_10, ty_11, ty_12, ty_13, ty_14, ty_15, ty_16, ty_17, ty_18, ty_19, ty_20, ty_21, ty_22, ty_23, ty_24, ty_25, ty_26, ty_27, ty_28, ty_29, ty_30, ty_31, ty_32, ty_33, ty_34, ty_35, ty_36, ty_37, ty_38, ty_39, ty_40, ty_41, ty_42, ty_43, ty_44, ty_45, ty_46, ty_47, ty_48, ty_49, ty_50, ty_51, ty_52, ty_53, ty_54, ty_55, ty_56, ty_57, ty_58, ty_59, ty_60, ty_61, ty_62, ty_63, ty_64, ty_65, ty_66, ty_67, ty_68, ty_69, ty_70, ty_71, ty_72, ty_73, ty_74, ty_75, ty_76, ty_77, ty_78, ty_79, ty_80, ty_81, ty_82, ty_83, ty_84, ty_85, ty_86, ty_87, ty_88, ty_89, ty_90, ty_91, ty_92, ty_93, ty_94, ty_95, ty_96, ty_97, ty_98, ty_99, ty_100, ty_101, ty_102, ty_103, ty_104, ty_105, ty_106, ty_107, ty_108, ty_109, ty_110, ty_111, ty_112, ty_113, ty_114, ty_115, ty_116, ty_117, ty_118, ty_119, ty_120, ty_121, ty_122, ty_123, ty_124, ty_125, ty_126, ty_127, ty_128, ty_129, pl_3_4, pl_4_3, pl_6_5, pl_9_1, pl_14_6, pl_18_6, pl_20_1, pl_29_6, pl_29_11, pl_30_3, pl_30_5, pl_30_9, pl_33_1, pl_33_10, pl_38_17, pl_46_4, pl_46_6, pl_47_10, pl_48_10, pl_50_3, pl_51_5, pl_51_11, pl_51_16, pl_51_17, pl_51_22, pl_51_23, pl_53_1, pl_53_3, pl_53_5, pl_53_8, pl_54_1, pl_54_3, pl_54_5, pl_54_8, pl_54_10, pl_54_13, pl_54_15, pl_54_18, pl_54_21, pl_60_3, pl_60_5, pl_60_6, pl_62_1, pl_62_2, pl_62_3, pl_69_1, pl_72_3, pl_88_9, pl_88_18, pl_89_9, hty, hpl, k59, oneL, tokOne, i00, i22, h1, h2, h3, h4, hee, hw]
      | t :: u :: r, hg =>
        have hlen : intBeq (↑(t :: u :: r ++ [endTok s]).length : Int) 2 = false := beqI_no (by simp; omega)
        have hlen' : intBeq (↑r.length + 1 + 1 + 1 : Int) 2 = false := beqI_no (by omega)
        simp only [codeAt, sub, Tryd.f44]
        simp [cdL_seq, cdL_region, cdL_drawn, cdL_cond, cdL_block, cdL_skip, cdL_label, cdL_exit, cdL_ret, endL, evSeq, evOne, evAct, evOp, opKind, evPure, evRead, evNew, evWrite, evSlice, natOf, optVal, readAt, AV.cells, wantedA, putTm, val, allVals, evBin, evInt, evStr, evAppend, evMin, denseFrom, sizesAre, onesIn, evPlan, recheck, AV.beq_refl, H.new, H.put, fillF, fillAt, allOne, AV.one, setArgs, evRes, resOf, ofVal, ofVal0, blt_dec, ble_dec, beq_dec, T.get_set_ite, T.get_e, isShift, ikBeq, ty_0, ty_1, ty_2, ty_3, ty_4, ty_5, ty_6, ty_7, ty_8, ty_9, ty_10, ty_11, ty_12, ty_13, ty_14, ty_15, ty_16, ty_17, ty_18, ty_19, ty_20, ty_21, ty_22, ty_23, ty_24, ty_25, ty_26, ty_27, ty_28, ty_29, ty_30, ty_31, ty_32, ty_33, ty_34, ty_35, ty_36, ty_37, ty_38, ty_39, ty_40, ty_41, ty_42, ty_43, ty_44, ty_45, ty_46, ty_47, ty_48, ty_49, ty_50, ty_51, ty_52, ty_53, ty_54, ty_55, ty_56, ty_57, ty_58, ty_59, ty_60, ty_61, ty_62, ty_63, ty_64, ty_65, ty_66, ty_67, ty_68, ty_69, ty_70, ty_71, ty_72, ty_73, ty_74, ty_75, ty_76, ty_77, ty_78, ty_79, ty_80, ty_81, ty_82, ty_83, ty_84, ty_85, ty_86, ty_87, ty_88, ty_89, ty_90, ty_91, ty_92, ty_93, ty_94, ty_95, ty_96, ty_97, ty_98, ty_99, ty_100, ty_101, ty_102, ty_103, ty_104, ty_105, ty_106, ty_107, ty_108, ty_109, ty_110, ty_111, ty_112, ty_113, ty_114, ty_115, ty_116, ty_117, ty_118, ty_119, ty_120, ty_121, ty_122, ty_123, ty_124, ty_125, ty_126, ty_127, ty_128, ty_129, pl_3_4, pl_4_3, pl_6_5, pl_9_1, pl_14_6, pl_18_6, pl_20_1, pl_29_6, pl_29_11, pl_30_3, pl_30_5, pl_30_9, pl_33_1, pl_33_10, pl_38_17, pl_46_4, pl_46_6, pl_47_10, pl_48_10, pl_50_3, pl_51_5, pl_51_11, pl_51_16, pl_51_17, pl_51_22, pl_51_23, pl_53_1, pl_53_3, pl_53_5, pl_53_8, pl_54_1, pl_54_3, pl_54_5, pl_54_8, pl_54_10, pl_54_13, pl_54_15, pl_54_18, pl_54_21, pl_60_3, pl_60_5, pl_60_6, pl_62_1, pl_62_2, pl_62_3, pl_69_1, pl_72_3, pl_88_9, pl_88_18, pl_89_9, hty, hpl, k59, oneL, i00, hlen, hlen']
    · rw [hq] at k59
      simp only [codeAt, sub, Tryd.f44]
      have : oneL s name k (l, some j) = false := by cases l with | nil => rfl | cons t l => cases l <;> rfl
      simp [cdL_seq, cdL_region, cdL_drawn, cdL_cond, cdL_block, cdL_skip, cdL_label, cdL_exit, cdL_ret, endL, evSeq, evOne, evAct, evOp, opKind, evPure, evRead, evNew, evWrite, evSlice, natOf, optVal, readAt, AV.cells, wantedA, putTm, val, allVals, evBin, evInt, evStr, evAppend, evMin, denseFrom, sizesAre, onesIn, evPlan, recheck, AV.beq_refl, H.new, H.put, fillF, fillAt, allOne, AV.one, setArgs, evRes, resOf, ofVal, ofVal0, blt_dec, ble_dec, beq_dec, T.get_set_ite, T.get_e, isShift, ikBeq, ty_0, ty_1, ty_2, ty_3, ty_4, ty_5, ty_6, ty_7, ty_8, ty_9, ty_10, ty_11, ty_12, ty_13, ty_14, ty_15, ty_16, ty_17, ty_18, ty_19, ty_20, ty_21, ty_22, ty_23, ty_24, ty_25, ty_26, ty_27, ty_28, ty_29, ty_30, ty_31, ty_32, ty_33, ty_34, ty_35, ty_36, ty_37, ty_38, ty_39, ty_40, ty_41, ty_42, ty_43, ty_44, ty_45, ty_46, ty_47, ty_48, ty_49, ty_50, ty_51, ty_52, ty_53, ty_54, ty_55, ty_56, ty_57, ty_58, ty_59, ty_60, ty_61, ty_62, ty_63, ty_64, ty_65, ty_66, ty_67, ty_68, ty_69, ty_70, ty_71, ty_72, ty_73, ty_74, ty_75, ty_76, ty_77, ty_78, ty_79, ty_80, ty_81, ty_82, ty_83, ty_84, ty_85, ty_86, ty_87, ty_88, ty_89, ty_90, ty_91, ty_92, ty_93, ty_94, ty_95, ty_96, ty_97, ty_98, ty_99, ty_100, ty_101, ty_102, ty_103, ty_104, ty_105, ty_106, ty_107, ty_108, ty_109, ty_110, ty_111, ty_112, ty_113, ty_114, ty_115, ty_116, ty_117, ty_118, ty_119, ty_120, ty_121, ty_122, ty_123, ty_124, ty_125, ty_126, ty_127, ty_128, ty_129, pl_3_4, pl_4_3, pl_6_5, pl_9_1, pl_14_6, pl_18_6, pl_20_1, pl_29_6, pl_29_11, pl_30_3, pl_30_5, pl_30_9, pl_33_1, pl_33_10, pl_38_17, pl_46_4, pl_46_6, pl_47_10, pl_48_10, pl_50_3, pl_51_5, pl_51_11, pl_51_16, pl_51_17, pl_51_22, pl_51_23, pl_53_1, pl_53_3, pl_53_5, pl_53_8, pl_54_1, pl_54_3, pl_54_5, pl_54_8, pl_54_10, pl_54_13, pl_54_15, pl_54_18, pl_54_21, pl_60_3, pl_60_5, pl_60_6, pl_62_1, pl_62_2, pl_62_3, pl_69_1, pl_72_3, pl_88_9, pl_88_18, pl_89_9, hty, hpl, k59, this, i20]
end Go.Proofs.YtmnhhlkbpjemnaaDoor.Lx
namespace Go.Proofs.YtmnhhlkbpjemnaaDoor.Env
open Go.Ev Go.Ev.Nd Go.Proofs.YtmnhhlkbpjemnaaDoor.Lx
noncomputable abbrev pOne := primVal (ofRel (Rel3 (fun s n : Str => fun _ : Int => s.s.length < 140737488355328 ∧ n.s.length < 140737488355328) fun s n k => oneF s.s n.s k))
theorem p44_ok : PrimOk Tryd.prog 44 pOne := prim3_ok env10_ok (fn := Tryd.f44) (by kernel_rfl) body44 (by kernel_rfl) fun s n k hq => by
  obtain ⟨h1, e⟩ := one44_run s.s n.s k hq.1 hq.2
  exact ⟨.bool (oneF s.s n.s k), h1, bodyL_of (by kernel_rfl) (by kernel_rfl) body44 rfl e, by simp [AV.wk, Enc.enc]⟩
noncomputable abbrev pIsName := primVal (ofRel (Rel1 (fun s : Str => s.s.length < 140737488355328) fun s => nameF s.s))
noncomputable abbrev e44 : Env := addPrim env 44 pOne
theorem p45_ok : PrimOk Tryd.prog 45 pIsName := prim1_ok (addPrim_ok env_ok p44_ok) (fn := Tryd.f45) (by kernel_rfl) rfl (by kernel_rfl) fun s hs => by
  have k44 : ∀ h, evL e44 44 [.str s.s, .str s.s, .int .i64 1] h = some (.bool (oneF s.s s.s 1), h) := fun h =>
    prim3_call (a := s) (b := s) (c := (1 : Int)) (F := fun s n : Str => fun k => oneF s.s n.s k) (q := fun s n : Str => fun _ : Int => s.s.length < 140737488355328 ∧ n.s.length < 140737488355328) (by kernel_rfl) (Enc.bare 0 s) (Enc.bare 0 s) (Enc.bare 0 (1 : Int)) ⟨hs, hs⟩ h
  have hty : e44.ty = env.ty := rfl
  have hpl : e44.plan = env.plan := rfl
  rw [show (Enc.enc s : AV) = .str s.s from rfl, ← one_name]
  unfold bodyL
  simp only [codeAt, sub, Tryd.f45]
  simp [cdL_seq, cdL_region, cdL_drawn, cdL_cond, cdL_block, cdL_skip, cdL_label, cdL_exit, cdL_ret, endL, evSeq, evOne, evAct, evOp, opKind, evPure, evRead, evNew, evWrite, evSlice, natOf, optVal, readAt, AV.cells, wantedA, putTm, val, allVals, evBin, evInt, evStr, evAppend, evMin, denseFrom, sizesAre, onesIn, evPlan, recheck, AV.beq_refl, H.new, H.put, fillF, fillAt, allOne, AV.one, setArgs, evRes, resOf, ofVal, ofVal0, blt_dec, ble_dec, beq_dec, T.get_set_ite, T.get_e, isShift, ikBeq, ty_0, ty_1, ty_2, ty_3, ty_4, ty_5, ty_6, ty_7, ty_8, ty_9, ty_10, ty_11, ty_12, ty_13, ty_14, ty_15, ty_16, ty_17, ty_18, ty_19, ty_20, ty_21, ty_22, ty_23, ty_24, ty_25, ty_26, ty_27, ty_28, ty_29, ty_30, ty_31, ty_32, ty_33, ty_34, ty_35, ty_36, ty_37, ty_38, ty_39, ty_40, ty_41, ty_42, ty_43, ty_44, ty_45, ty_46, ty_47, ty_48, ty_49, ty_50, ty_51, ty_52, ty_53, ty_54, ty_55, ty_56, ty_57, ty_58, ty_59, ty_60, ty_61, ty_62, ty_63, ty_64, ty_65, ty_66, ty_67, ty_68, ty_69, ty_70, ty_71, ty_72, ty_73, ty_74, ty_75, ty_76, ty_77, ty_78, ty_79, ty_80, ty_81, ty_82, ty_83, ty_84, ty_85, ty_86, ty_87, ty_88, ty_89, ty_90, ty_91, ty_92, ty_93, ty_94, ty_95, ty_96, ty_97, ty_98, ty_99, ty_100, ty_101, ty_102, ty_103, ty_104, ty_105, ty_106, ty_107, ty_108, ty_109, ty_110, ty_111, ty_112, ty_113, ty_114, ty_115, ty_116, ty_117, ty_118, ty_119, ty_120, ty_121, ty_122, ty_123, ty_124, ty_125, ty_126, ty_127, ty_128, ty_129, pl_3_4, pl_4_3, pl_6_5, pl_9_1, pl_14_6, pl_18_6, pl_20_1, pl_29_6, pl_29_11, pl_30_3, pl_30_5, pl_30_9, pl_33_1, pl_33_10, pl_38_17, pl_46_4, pl_46_6, pl_47_10, pl_48_10, pl_50_3, pl_51_5, pl_51_11, pl_51_16, pl_51_17, pl_51_22, pl_51_23, pl_53_1, pl_53_3, pl_53_5, pl_53_8, pl_54_1, pl_54_3, pl_54_5, pl_54_8, pl_54_10, pl_54_13, pl_54_15, pl_54_18, pl_54_21, pl_60_3, pl_60_5, pl_60_6, pl_62_1, pl_62_2, pl_62_3, pl_69_1, pl_72_3, pl_88_9, pl_88_18, pl_89_9, hty, hpl, k44, AV.wk, Enc.enc]
end Go.Proofs.YtmnhhlkbpjemnaaDoor.Env
/- The tree's names of a node and a shape. -/
set_option autoImplicit false
set_option maxRecDepth 100000
set_option maxHeartbeats 2000000
set_option linter.unusedSimpArgs false
set_option linter.unusedVariables false
namespace Go.Proofs.YtmnhhlkbpjemnaaDoor.Env
open Go.Ev Go.Ev.Nd Go.Proofs.YtmnhhlkbpjemnaaDoor.Lx

structure Sha where
  a : Bool
  b : Bool
  l : Int
  k : Int
def Sha.av (s : Sha) : AV := .agg [.bool s.a, .bool s.b, .int .i64 s.l, .int .i64 s.k]
instance : Enc Sha where
  enc := Sha.av
  inj := by
    rintro x ⟨a1, b1, l1, k1⟩ ⟨a2, b2, l2, k2⟩ h1 h2
    simp only [Sha.av] at h1 h2
    cases x with
    | ptr p => cases p <;> simp [AV.wk] at h1
    | map p => cases p <;> simp [AV.wk] at h1
    | agg cs =>
      rw [wk_agg] at h1 h2
      match cs, h1, h2 with
      | [c0, c1, c2, c3], h1, h2 =>
        simp only [wks_cons] at h1 h2
        obtain ⟨x1, x2, x3, x4, _⟩ := h1
        obtain ⟨y1, y2, y3, y4, _⟩ := h2
        have e1 : a1 = a2 := Enc.inj (α := Bool) x1 y1
        have e2 : b1 = b2 := Enc.inj (α := Bool) x2 y2
        have e3 : l1 = l2 := Enc.inj (α := Int) x3 y3
        have e4 : k1 = k2 := Enc.inj (α := Int) x4 y4
        rw [e1, e2, e3, e4]
      | [], h1, _ => exact absurd (wks_iff.1 h1).1 (by simp)
      | [_], h1, _ => exact absurd (wks_iff.1 h1).1 (by simp)
      | [_, _], h1, _ => exact absurd (wks_iff.1 h1).1 (by simp)
      | [_, _, _], h1, _ => exact absurd (wks_iff.1 h1).1 (by simp)
      | _ :: _ :: _ :: _ :: _ :: _, h1, _ => exact absurd (wks_iff.1 h1).1 (by simp)
    | _ => simp [AV.wk] at h1
  bare := fun n s => by
    show (Sha.av s).wk n (Sha.av s)
    unfold Sha.av
    rw [wk_agg]
    simp [wks_cons, AV.wk, wks_nil]
def namT (o p q : List Nat) (a b : Bool) : Bool :=
  bif natsBeq o strS then natsBeq q [] && okT p
  else bif (bif a then !nameF p else !natsBeq p []) then false
  else bif b then nameF q else natsBeq q []
noncomputable abbrev pNamesT := primVal (ofRel (Rel2 (fun (t : Nd) (_ : Sha) => fit t) fun t s => namT t.op t.name t.arg s.a s.b))
noncomputable abbrev e4445 : Env := addPrim e44 45 pIsName
theorem e4445_ok : EnvOk Tryd.prog e4445 := addPrim_ok (addPrim_ok env_ok p44_ok) p45_ok
theorem body34 : Tryd.f34.body = some (codeAt Tryd.f34 []) := rfl
theorem p34_ok : PrimOk Tryd.prog 34 pNamesT := prim2_ok e4445_ok (fn := Tryd.f34) (by kernel_rfl) body34 (by kernel_rfl) fun t s hf => by
  obtain ⟨o, p, q, n, a, ks⟩ := t
  obtain ⟨sa, sb, sl, sk⟩ := s
  simp only [fit] at hf
  have k45p : ∀ h, evL e4445 45 [.str p] h = some (.bool (nameF p), h) := fun h => prim1_call (a := (⟨p⟩ : Str)) (F := fun s : Str => nameF s.s) (q := fun s : Str => s.s.length < 140737488355328) (by kernel_rfl) (Enc.bare 0 (⟨p⟩ : Str)) (by have := hf.2.1.1; show p.length < _; omega) h
  have k45q : ∀ h, evL e4445 45 [.str q] h = some (.bool (nameF q), h) := fun h => prim1_call (a := (⟨q⟩ : Str)) (F := fun s : Str => nameF s.s) (q := fun s : Str => s.s.length < 140737488355328) (by kernel_rfl) (Enc.bare 0 (⟨q⟩ : Str)) (by have := hf.2.2.1.1; show q.length < _; omega) h
  have k44 : ∀ h, evL e4445 44 [.str (34 :: (p ++ [34])), .str p, .int .i64 3] h = some (.bool (okT p), h) := fun h => by
    rw [← one_text]
    exact prim3_call (a := (⟨34 :: (p ++ [34])⟩ : Str)) (b := (⟨p⟩ : Str)) (c := (3 : Int)) (F := fun s n : Str => fun k => oneF s.s n.s k) (q := fun s n : Str => fun _ : Int => s.s.length < 140737488355328 ∧ n.s.length < 140737488355328) (by kernel_rfl) (Enc.bare 0 _) (Enc.bare 0 _) (Enc.bare 0 (3 : Int)) (by have := hf.2.1.1; simp; omega) h
  have hle1 : 1 + p.length ≤ 140737488355328 := by have := hf.2.1.1; omega
  have hle2 : p.length + 1 + 1 ≤ 140737488355328 := by have := hf.2.1.1; omega
  have hty : e4445.ty = env.ty := rfl
  have hpl : e4445.plan = env.plan := rfl
  show ∃ v' h1, bodyL e4445 34 Tryd.f34 (codeAt Tryd.f34 []) [(Nd.mk o p q n a ks).av, (Sha.mk sa sb sl sk).av] ⟨.e, 0⟩ = some (v', h1) ∧ v'.wk 0 (.bool (namT o p q sa sb))
  unfold bodyL namT
  simp only [codeAt, sub, Tryd.f34, Nd.av, Sha.av]
  generalize nameF p = np at *
  generalize nameF q = nq at *
  generalize okT p = tp at *
  generalize hp0 : natsBeq p [] = p0 at *
  generalize hq0 : natsBeq q [] = q0 at *
  simp only [strS]
  cases ho : natsBeq o [115, 116, 114] with
  | true => cases q0 <;> simp [cdL_seq, cdL_region, cdL_drawn, cdL_cond, cdL_block, cdL_skip, cdL_label, cdL_exit, cdL_ret, endL, evSeq, evOne, evAct, evOp, opKind, evPure, evRead, evNew, evWrite, evSlice, natOf, optVal, readAt, AV.cells, wantedA, putTm, val, allVals, evBin, evInt, evStr, evAppend, evMin, denseFrom, sizesAre, onesIn, evPlan, recheck, AV.beq_refl, H.new, H.put, fillF, fillAt, allOne, AV.one, setArgs, evRes, resOf, ofVal, ofVal0, blt_dec, ble_dec, beq_dec, T.get_set_ite, T.get_e, isShift, ikBeq, ty_0, ty_1, ty_2, ty_3, ty_4, ty_5, ty_6, ty_7, ty_8, ty_9, ty_10, ty_11, ty_12, ty_13, ty_14, ty_15, ty_16, ty_17, ty_18, ty_19, ty_20, ty_21, ty_22, ty_23, ty_24, ty_25, ty_26, ty_27, ty_28, ty_29, ty_30, ty_31, ty_32, ty_33, ty_34, ty_35, ty_36, ty_37, ty_38, ty_39, ty_40, ty_41, ty_42, ty_43, ty_44, ty_45, ty_46, ty_47, ty_48, ty_49, ty_50, ty_51, ty_52, ty_53, ty_54, ty_55, ty_56, ty_57, ty_58, ty_59, ty_60, ty_61, ty_62, ty_63, ty_64, ty_65, ty_66, ty_67, ty_68, ty_69, ty_70, ty_71, ty_72, ty_73, ty_74, ty_75, ty_76, ty_77, ty_78, ty_79, ty_80, ty_81, ty_82, ty_83, ty_84, ty_85, ty_86, ty_87, ty_88, ty_89, ty_90, ty_91, ty_92, ty_93, ty_94, ty_95, ty_96, ty_97, ty_98, ty_99, ty_100, ty_101, ty_102, ty_103, ty_104, ty_105, ty_106, ty_107, ty_108, ty_109, ty_110, ty_111, ty_112, ty_113, ty_114, ty_115, ty_116, ty_117, ty_118, ty_119, ty_120, ty_121, ty_122, ty_123, ty_124, ty_125, ty_126, ty_127, ty_128, ty_129, pl_3_4, pl_4_3, pl_6_5, pl_9_1, pl_14_6, pl_18_6, pl_20_1, pl_29_6, pl_29_11, pl_30_3, pl_30_5, pl_30_9, pl_33_1, pl_33_10, pl_38_17, pl_46_4, pl_46_6, pl_47_10, pl_48_10, pl_50_3, pl_51_5, pl_51_11, pl_51_16, pl_51_17, pl_51_22, pl_51_23, pl_53_1, pl_53_3, pl_53_5, pl_53_8, pl_54_1, pl_54_3, pl_54_5, pl_54_8, pl_54_10, pl_54_13, pl_54_15, pl_54_18, pl_54_21, pl_60_3, pl_60_5, pl_60_6, pl_62_1, pl_62_2, pl_62_3, pl_69_1, pl_72_3, pl_88_9, pl_88_18, pl_89_9, hty, hpl, bytesOf, k45p, k45q, k44, hp0, hq0, ho, hle1, hle2, AV.wk]
  | false =>
    cases sa with
    | true => cases np <;> cases sb <;> simp [cdL_seq, cdL_region, cdL_drawn, cdL_cond, cdL_block, cdL_skip, cdL_label, cdL_exit, cdL_ret, endL, evSeq, evOne, evAct, evOp, opKind, evPure, evRead, evNew, evWrite, evSlice, natOf, optVal, readAt, AV.cells, wantedA, putTm, val, allVals, evBin, evInt, evStr, evAppend, evMin, denseFrom, sizesAre, onesIn, evPlan, recheck, AV.beq_refl, H.new, H.put, fillF, fillAt, allOne, AV.one, setArgs, evRes, resOf, ofVal, ofVal0, blt_dec, ble_dec, beq_dec, T.get_set_ite, T.get_e, isShift, ikBeq, ty_0, ty_1, ty_2, ty_3, ty_4, ty_5, ty_6, ty_7, ty_8, ty_9, ty_10, ty_11, ty_12, ty_13, ty_14, ty_15, ty_16, ty_17, ty_18, ty_19, ty_20, ty_21, ty_22, ty_23, ty_24, ty_25, ty_26, ty_27, ty_28, ty_29, ty_30, ty_31, ty_32, ty_33, ty_34, ty_35, ty_36, ty_37, ty_38, ty_39, ty_40, ty_41, ty_42, ty_43, ty_44, ty_45, ty_46, ty_47, ty_48, ty_49, ty_50, ty_51, ty_52, ty_53, ty_54, ty_55, ty_56, ty_57, ty_58, ty_59, ty_60, ty_61, ty_62, ty_63, ty_64, ty_65, ty_66, ty_67, ty_68, ty_69, ty_70, ty_71, ty_72, ty_73, ty_74, ty_75, ty_76, ty_77, ty_78, ty_79, ty_80, ty_81, ty_82, ty_83, ty_84, ty_85, ty_86, ty_87, ty_88, ty_89, ty_90, ty_91, ty_92, ty_93, ty_94, ty_95, ty_96, ty_97, ty_98, ty_99, ty_100, ty_101, ty_102, ty_103, ty_104, ty_105, ty_106, ty_107, ty_108, ty_109, ty_110, ty_111, ty_112, ty_113, ty_114, ty_115, ty_116, ty_117, ty_118, ty_119, ty_120, ty_121, ty_122, ty_123, ty_124, ty_125, ty_126, ty_127, ty_128, ty_129, pl_3_4, pl_4_3, pl_6_5, pl_9_1, pl_14_6, pl_18_6, pl_20_1, pl_29_6, pl_29_11, pl_30_3, pl_30_5, pl_30_9, pl_33_1, pl_33_10, pl_38_17, pl_46_4, pl_46_6, pl_47_10, pl_48_10, pl_50_3, pl_51_5, pl_51_11, pl_51_16, pl_51_17, pl_51_22, pl_51_23, pl_53_1, pl_53_3, pl_53_5, pl_53_8, pl_54_1, pl_54_3, pl_54_5, pl_54_8, pl_54_10, pl_54_13, pl_54_15, pl_54_18, pl_54_21, pl_60_3, pl_60_5, pl_60_6, pl_62_1, pl_62_2, pl_62_3, pl_69_1, pl_72_3, pl_88_9, pl_88_18, pl_89_9, hty, hpl, bytesOf, k45p, k45q, k44, hp0, hq0, ho, AV.wk]
    | false => cases p0 <;> cases sb <;> simp [cdL_seq, cdL_region, cdL_drawn, cdL_cond, cdL_block, cdL_skip, cdL_label, cdL_exit, cdL_ret, endL, evSeq, evOne, evAct, evOp, opKind, evPure, evRead, evNew, evWrite, evSlice, natOf, optVal, readAt, AV.cells, wantedA, putTm, val, allVals, evBin, evInt, evStr, evAppend, evMin, denseFrom, sizesAre, onesIn, evPlan, recheck, AV.beq_refl, H.new, H.put, fillF, fillAt, allOne, AV.one, setArgs, evRes, resOf, ofVal, ofVal0, blt_dec, ble_dec, beq_dec, T.get_set_ite, T.get_e, isShift, ikBeq, ty_0, ty_1, ty_2, ty_3, ty_4, ty_5, ty_6, ty_7, ty_8, ty_9, ty_10, ty_11, ty_12, ty_13, ty_14, ty_15, ty_16, ty_17, ty_18, ty_19, ty_20, ty_21, ty_22, ty_23, ty_24, ty_25, ty_26, ty_27, ty_28, ty_29, ty_30, ty_31, ty_32, ty_33, ty_34, ty_35, ty_36, ty_37, ty_38, ty_39, ty_40, ty_41, ty_42, ty_43, ty_44, ty_45, ty_46, ty_47, ty_48, ty_49, ty_50, ty_51, ty_52, ty_53, ty_54, ty_55, ty_56, ty_57, ty_58, ty_59, ty_60, ty_61, ty_62, ty_63, ty_64, ty_65, ty_66, ty_67, ty_68, ty_69, ty_70, ty_71, ty_72, ty_73, ty_74, ty_75, ty_76, ty_77, ty_78, ty_79, ty_80, ty_81, ty_82, ty_83, ty_84, ty_85, ty_86, ty_87, ty_88, ty_89, ty_90, ty_91, ty_92, ty_93, ty_94, ty_95, ty_96, ty_97, ty_98, ty_99, ty_100, ty_101, ty_102, ty_103, ty_104, ty_105, ty_106, ty_107, ty_108, ty_109, ty_110, ty_111, ty_112, ty_113, ty_114, ty_115, ty_116, ty_117, ty_118, ty_119, ty_120, ty_121, ty_122, ty_123, ty_124, ty_125, ty_126, ty_127, ty_128, ty_129, pl_3_4, pl_4_3, pl_6_5, pl_9_1, pl_14_6, pl_18_6, pl_20_1, pl_29_6, pl_29_11, pl_30_3, pl_30_5, pl_30_9, pl_33_1, pl_33_10, pl_38_17, pl_46_4, pl_46_6, pl_47_10, pl_48_10, pl_50_3, pl_51_5, pl_51_11, pl_51_16, pl_51_17, pl_51_22, pl_51_23, pl_53_1, pl_53_3, pl_53_5, pl_53_8, pl_54_1, pl_54_3, pl_54_5, pl_54_8, pl_54_10, pl_54_13, pl_54_15, pl_54_18, pl_54_21, pl_60_3, pl_60_5, pl_60_6, pl_62_1, pl_62_2, pl_62_3, pl_69_1, pl_72_3, pl_88_9, pl_88_18, pl_89_9, hty, hpl, bytesOf, k45p, k45q, k44, hp0, hq0, ho, AV.wk]
end Go.Proofs.YtmnhhlkbpjemnaaDoor.Env
