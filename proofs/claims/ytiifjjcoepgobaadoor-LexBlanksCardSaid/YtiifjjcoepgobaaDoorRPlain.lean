/- A token by the program is a token by the reference. -/
import Derived.Test.YtiifjjcoepgobaaDoorRLx
set_option autoImplicit false
set_option maxRecDepth 100000
set_option linter.unusedSimpArgs false
set_option linter.unusedVariables false
namespace Go.Proofs.YtiifjjcoepgobaaDoor.Env
open Go.Ev

theorem cnt_take (q : Int → Bool) : ∀ l : List Nat, (l.take (cnt q l)).all (fun c => q ↑c) = true
  | [] => rfl
  | c :: l => by
    cases hq : q ↑c with
    | false => simp [cnt, hq]
    | true => simp [cnt, hq]; simpa using cnt_take q l
theorem cnt_at {q : Int → Bool} : ∀ {l : List Nat} {c : Nat}, l[cnt q l]? = some c → q ↑c = false
  | [], c, h => by simp [cnt] at h
  | a :: l, c, h => by
    cases hq : q ↑a with
    | false => simp [cnt, hq] at h; rw [← h]; exact hq
    | true => simp [cnt, hq] at h; exact cnt_at h
theorem cnt_is {q : Int → Bool} : ∀ {l : List Nat} {m c : Nat}, (l.take m).all (fun c => q ↑c) = true → l[m]? = some c → q ↑c = false → cnt q l = m
  | [], m, c, _, h, _ => by simp at h
  | a :: l, 0, c, _, h, hc => by simp at h; subst h; simp [cnt, hc]
  | a :: l, m + 1, c, h1, h, hc => by
    simp at h1 h
    have := cnt_is (l := l) (m := m) (by simpa using h1.2) h hc
    simp [cnt, h1.1, this]
theorem natsBeq_iff {a b : List Nat} : natsBeq a b = true ↔ a = b := by
  constructor
  · induction a generalizing b with
    | nil => cases b <;> simp [natsBeq]
    | cons x a ih =>
      cases b with
      | nil => simp [natsBeq]
      | cons y b =>
        simp only [natsBeq, Bool.and_eq_true]
        rintro ⟨h1, h2⟩
        rw [Nat.eq_of_beq_eq_true h1, ih h2]
  · rintro rfl; exact natsBeq_refl a
theorem idxF_neg {v : List Nat} : ∀ {l : List (List Nat)} (i : Nat), ltI (idxF v l i) 0 = !(l.any (natsBeq · v))
  | [], i => by simp [idxF]; rfl
  | w :: l, i => by
    have hsym : natsBeq v w = natsBeq w v := by
      cases h : natsBeq w v with
      | true => rw [natsBeq_iff.1 h]; exact natsBeq_refl v
      | false =>
        cases h2 : natsBeq v w with
        | false => rfl
        | true => rw [natsBeq_iff.1 h2, natsBeq_refl] at h; simp at h
    simp only [idxF, List.any_cons]
    cases h : natsBeq v w with
    | true =>
      rw [hsym] at h
      simp [h]
      exact ltI_f (a := i) (b := 0) (Nat.zero_le _)
    | false =>
      rw [hsym] at h
      simp only [cond_false, h, Bool.false_or]
      exact idxF_neg (i + 1)
theorem hasF_isW (v : List Nat) : hasF v wordsL = isW v := by simp [hasF, idxF_neg, isW]
theorem isW_len {v : List Nat} (h : isW v = true) : v.length ≤ 12 := by
  obtain ⟨w, hw, hb⟩ := List.any_eq_true.1 h
  rw [← natsBeq_iff.1 hb]
  have : ∀ w ∈ wordsL, w.length ≤ 12 := by decide
  exact this w hw
theorem rv_num : ∀ (l : List Nat) (i : Nat) (v : Int), i + cnt pDigit l ≤ 18 → rv i l v = numF (l.take (cnt pDigit l)) v
  | [], i, v, _ => rfl
  | c :: l, i, v, h => by
    cases hq : pDigit ↑c with
    | false => simp [rv, cnt, hq, numF]
    | true =>
      simp only [cnt, hq, cond_true] at h
      have : ltI ↑i 18 = true := ltI_t (a := i) (b := 18) (by omega)
      simp only [rv, cnt, hq, this, cond_true, List.take_succ_cons, numF]
      exact rv_num l (i + 1) _ (by omega)

def RC (s : List Nat) (i : Nat) : Prop :=
  (∃ (x1 : Int) (x2 : List Nat) (x3 x4 : Int) (n : Nat), rone (s.drop i) = .tup [.agg [.int .i64 x1, .str x2, .int .i64 x3, .int .i64 x4], .int .i64 ↑n] ∧ 0 < n ∧ tokAt s i = some (.agg [.int .i64 x1, .str x2, .int .i64 x3, .int .i64 ↑i], n)) ∨
  (∃ (x1 : Int) (x2 : List Nat) (x3 x4 : Int), rone (s.drop i) = .tup [.agg [.int .i64 x1, .str x2, .int .i64 x3, .int .i64 x4], .int .i64 0] ∧ tokAt s i = none)
theorem tokAt_t {s : List Nat} {i : Nat} {t : AV} {n : Nat} (h : tokRes s i = .tup [t, .int .i64 ↑n, .bool true]) : tokAt s i = some (t, n) := by unfold tokAt; rw [h]
theorem tokAt_f {s : List Nat} {i : Nat} {t : AV} {n : Int} (h : tokRes s i = .tup [t, .int .i64 n, .bool false]) : tokAt s i = none := by unfold tokAt; rw [h]; cases n <;> rfl
theorem rone_cases {s : List Nat} {i c : Nat} (hc : s[i]? = some c) : RC s i := by
  have hlt := getElem?_lt hc
  obtain ⟨d, hd⟩ : ∃ d, s.drop i = c :: d := ⟨s.drop (i + 1), by
    rw [List.drop_eq_getElem_cons hlt]
    rw [List.getElem?_eq_getElem hlt] at hc
    rw [Option.some.inj hc]⟩
  have hd1 : s.drop (i + 1) = d := by
    have := congrArg List.tail hd
    simpa [List.tail_drop] using this
  have hR : tokRes s i = bif pLetter ↑c then nameRes s i else bif pDigit ↑c then numRes s i else bif intBeq ↑c 34 then textRes s i else signRes s i := by
    unfold tokRes; rw [hc]
  have hO : rone (s.drop i) = bif pLetter ↑c then rname (c :: d) else bif pDigit ↑c then rnum (c :: d) else bif intBeq ↑c 34 then rquo (c :: d) else .tup [tokA 4 (sgn (c :: d)) 0 0, .int .i64 ↑(sgn (c :: d)).length] := by
    rw [hd]; rfl
  unfold RC
  cases h1 : pLetter ↑c with
  | true =>
    rw [h1] at hR hO
    simp only [cond_true] at hR hO
    have hm : cnt pMore (c :: d) = 1 + cnt pMore d := by simp [cnt, pMore, h1, Nat.add_comm]
    unfold nameRes at hR
    rw [hd, hm] at hR
    unfold rname at hO
    simp only [List.drop_succ_cons, List.drop_zero] at hO
    unfold nameKind at hR
    rw [hasF_isW] at hR
    cases h2 : isW ((c :: d).take (1 + cnt pMore d)) with
    | true =>
      rw [h2] at hR hO
      have hle : 1 + cnt pMore d ≤ 12 := by
        have := isW_len h2
        have h3 := cnt_le pMore d
        simp at this
        omega
      rw [show ltI 12 ↑(1 + cnt pMore d) = false from ltI_f (a := 12) hle] at hR
      exact .inl ⟨_, _, _, _, _, hO, by omega, tokAt_t hR⟩
    | false =>
      rw [h2] at hR hO
      cases h3 : ltI 12 ↑(1 + cnt pMore d) with
      | true =>
        rw [h3] at hR hO
        exact .inr ⟨_, _, _, _, hO, tokAt_f hR⟩
      | false =>
        rw [h3] at hR hO
        exact .inl ⟨_, _, _, _, _, hO, by omega, tokAt_t hR⟩
  | false =>
    rw [h1] at hR hO
    simp only [cond_false] at hR hO
    cases h2 : pDigit ↑c with
    | true =>
      rw [h2] at hR hO
      simp only [cond_true] at hR hO
      unfold numRes at hR
      unfold rnum at hO
      rw [hd] at hR
      have hb : numBad s i (cnt pDigit (c :: d)) = numBad (c :: d) 0 (cnt pDigit (c :: d)) := by unfold numBad; rw [hc]; rfl
      have hp : 0 < cnt pDigit (c :: d) := by simp [cnt, h2]
      cases h3 : numBad (c :: d) 0 (cnt pDigit (c :: d)) with
      | true =>
        rw [hb, h3] at hR
        rw [h3] at hO
        exact .inr ⟨_, _, _, _, hO, tokAt_f hR⟩
      | false =>
        rw [hb, h3] at hR
        rw [h3] at hO
        have h18 : cnt pDigit (c :: d) ≤ 18 := by
          unfold numBad at h3
          simp only [Bool.or_eq_false_iff] at h3
          have := h3.1
          rw [show (18 : Int) = ((18 : Nat) : Int) from rfl, ltI_nat] at this
          simpa using this
        rw [rv_num _ 0 0 (by omega)] at hO
        exact .inl ⟨_, _, _, _, _, hO, hp, tokAt_t hR⟩
    | false =>
      rw [h2] at hR hO
      simp only [cond_false] at hR hO
      cases h3 : intBeq ↑c 34 with
      | true =>
        rw [h3] at hR hO
        simp only [cond_true] at hR hO
        unfold textRes at hR
        unfold rquo at hO
        rw [hd1] at hR
        simp only [List.tail_cons, Nat.add_sub_cancel_left, List.length_cons] at hO
        have hs : s[i + 1 + cnt pPlain d]? = d[cnt pPlain d]? := by rw [← hd1, List.getElem?_drop]
        have hN : ∀ x : Nat, pPlain ↑x = true → pNq ↑x = true := fun x hx => by
          simp only [pPlain, Bool.and_eq_true] at hx
          exact hx.2.2
        have hQ : ∀ x : Nat, pNq ↑x = false → intBeq ↑x 34 = true ∧ pPlain ↑x = false := fun x hx => by
          unfold pNq at hx
          have : intBeq ↑x 34 = true := by simpa using hx
          exact ⟨this, by simp [pPlain, this]⟩
        have hl1 := cnt_le pNq d
        have hl2 := cnt_le pPlain d
        cases h5 : okText s (i + 1 + cnt pPlain d) (cnt pPlain d) with
        | true =>
          rw [h5] at hR
          unfold okText at h5
          rw [hs] at h5
          cases he : d[cnt pPlain d]? with
          | none => rw [he] at h5; simp at h5
          | some e =>
            rw [he] at h5
            simp only [Bool.and_eq_true, Bool.not_eq_true'] at h5
            have hk : cnt pNq d = cnt pPlain d := cnt_is (c := e) (by
              refine List.all_eq_true.2 fun x hx => hN x ?_
              exact List.all_eq_true.1 (cnt_take pPlain d) x hx) he (by simp [pNq, h5.1])
            have hlt2 := getElem?_lt he
            rw [hk] at hO
            have hne : intBeq ↑(1 + cnt pPlain d) ↑(d.length + 1) = false := by
              rw [intBeq_eq]; simp; omega
            have hok : okT (d.take (cnt pPlain d)) = true := by
              unfold okT
              rw [Bool.and_eq_true]
              refine ⟨cnt_take pPlain d, ?_⟩
              rw [List.length_take, Nat.min_eq_left hl2]
              simpa using h5.2
            rw [hne, hok] at hO
            refine .inl ⟨_, _, _, 0, cnt pPlain d + 2, ?_, by omega, tokAt_t hR⟩
            rw [hO]
            simp [tokA, Int.add_comm, Int.add_left_comm, Int.add_assoc]
            omega
        | false =>
          rw [h5] at hR
          refine .inr ?_
          have hx : (intBeq ↑(1 + cnt pNq d) ↑(d.length + 1) || !okT (d.take (cnt pNq d))) = true := by
            cases h6 : intBeq ↑(1 + cnt pNq d) ↑(d.length + 1) with
            | true => rfl
            | false =>
              cases h7 : okT (d.take (cnt pNq d)) with
              | false => rfl
              | true =>
                exfalso
                unfold okT at h7
                rw [Bool.and_eq_true] at h7
                have hlt2 : cnt pNq d < d.length := by
                  rcases Nat.lt_or_eq_of_le hl1 with h8 | h8
                  · exact h8
                  · rw [h8, intBeq_eq] at h6; simp at h6; omega
                have he := List.getElem?_eq_getElem hlt2
                have hq := hQ _ (cnt_at he)
                have hk : cnt pPlain d = cnt pNq d := cnt_is h7.1 he hq.2
                unfold okText at h5
                rw [hs, hk, he] at h5
                rw [List.length_take, Nat.min_eq_left hl1] at h7
                simp only [hq.1, Bool.true_and] at h5
                rw [h5] at h7
                simp at h7
          rw [hx] at hO
          exact ⟨_, _, _, _, hO, tokAt_f hR⟩
      | false =>
        rw [h3] at hR hO
        simp only [cond_false] at hR hO
        unfold signRes at hR
        rw [hd] at hR
        unfold sgn at hO
        cases h5 : firstF (c :: d) signsL with
        | none =>
          rw [h5] at hR hO
          exact .inr ⟨_, _, _, _, hO, tokAt_f hR⟩
        | some w =>
          rw [h5] at hR hO
          have hw : ∀ w ∈ signsL, 0 < w.length := by decide
          exact .inl ⟨_, _, _, _, _, hO, hw w (firstF_len h5).1, tokAt_t hR⟩
end Go.Proofs.YtiifjjcoepgobaaDoor.Env
