/- One token is the whole text: in plain words, and what the tree asks of it. -/
import Derived.Test.YtncccgglillmoaaGreatDoorZTO
set_option autoImplicit false
set_option maxRecDepth 100000
set_option linter.unusedSimpArgs false
set_option linter.unusedVariables false
namespace Go.Proofs.YtncccgglillmoaaGreatDoor.Lx
open Go.Ev Go.Proofs.YtncccgglillmoaaGreatDoor.Env

def tokOne (t : AV) (name : List Nat) (k : Int) : Bool := match t with
  | .agg [.int _ x1, .str x2, _, .int _ x4] => intBeq x1 k && (natsBeq x2 name && intBeq x4 0)
  | _ => false
def oneL (s name : List Nat) (k : Int) : List AV × Option Nat → Bool
  | ([t], none) => tokOne t name k && !ltI 2 (↑s.length - ↑name.length)
  | _ => false
def oneF (s name : List Nat) (k : Int) : Bool := !ltI 2000 ↑s.length && oneL s name k (lx (s.length + 1) s 0 [])
def tokFrom (i : Nat) (t : AV) : Prop := ∃ (x1 : Int) (x2 : List Nat) (x3 : Int) (x4 : Nat), t = .agg [.int .i64 x1, .str x2, .int .i64 x3, .int .i64 ↑x4] ∧ i ≤ x4
def tokOf : AV → Option (AV × Nat)
  | .tup [t, .int .i64 (.ofNat n), .bool true] => some (t, n)
  | _ => none
theorem tokAt_def (s : List Nat) (i : Nat) : tokAt s i = tokOf (tokRes s i) := rfl
theorem tokOf_tok {k : Int} {x : List Nat} {m a j : Int} {b : Bool} {t : AV} {n : Nat} (h : tokOf (.tup [tokA k x m a, .int .i64 j, .bool b]) = some (t, n)) : t = tokA k x m a := by
  cases j with
  | negSucc j => simp [tokOf] at h
  | ofNat j =>
    cases b with
    | false => simp [tokOf] at h
    | true => simp only [tokOf, Option.some.injEq, Prod.mk.injEq] at h; exact h.1.symm
/-- A token's kind: 1 or 4 of what begins with a letter. -/
theorem tokRes_kind {s : List Nat} {i c : Nat} (hc : s[i]? = some c) : ∃ (k : Int) (x : List Nat) (m a j : Int) (b : Bool), tokRes s i = .tup [tokA k x m a, .int .i64 j, .bool b] ∧ (b = true → a = ↑i) ∧ (pLetter ↑c = false → k ≠ 1) := by
  unfold tokRes
  rw [hc]
  simp only
  cases h1 : pLetter ↑c with
  | true => exact ⟨_, _, _, _, _, _, rfl, fun _ => rfl, fun e => by cases e⟩
  | false =>
    cases h2 : pDigit ↑c with
    | true =>
      simp only [cond_true, cond_false]
      unfold numRes
      cases numBad s i (cnt pDigit (s.drop i))
      · exact ⟨_, _, _, _, _, _, rfl, fun _ => rfl, fun _ => by decide⟩
      · exact ⟨_, _, _, _, _, _, rfl, fun _ => rfl, fun _ => by decide⟩
    | false =>
      cases h3 : intBeq ↑c 34 with
      | true => exact ⟨_, _, _, _, _, _, rfl, fun _ => rfl, fun _ => by decide⟩
      | false =>
        simp only [cond_false]
        unfold signRes
        cases hf : firstF (s.drop i) signsL with
        | none => exact ⟨_, _, _, _, _, _, rfl, fun e => by simp at e, fun _ => by decide⟩
        | some w => exact ⟨_, _, _, _, _, _, rfl, fun _ => rfl, fun _ => by decide⟩
theorem tokAt_get {s : List Nat} {i n : Nat} {t : AV} (h : tokAt s i = some (t, n)) : ∃ (c : Nat) (k : Int) (x : List Nat) (m : Int), s[i]? = some c ∧ t = tokA k x m ↑i ∧ (pLetter ↑c = false → k ≠ 1) := by
  rw [tokAt_def] at h
  cases hc : s[i]? with
  | none => unfold tokRes at h; rw [hc] at h; simp [tokOf] at h
  | some c =>
    obtain ⟨k, x, m, a, j, b, e, ha, hk⟩ := tokRes_kind hc
    rw [e] at h
    have ht := tokOf_tok h
    cases b with
    | false => cases j <;> simp [tokOf] at h
    | true => exact ⟨c, k, x, m, rfl, by rw [ht, ha rfl], hk⟩
theorem tokAt_at {s : List Nat} {i n : Nat} {t : AV} (h : tokAt s i = some (t, n)) : tokFrom i t := by
  obtain ⟨c, k, x, m, _, rfl, _⟩ := tokAt_get h
  exact ⟨_, _, _, _, rfl, Nat.le_refl _⟩
theorem lx_ext {s : List Nat} : ∀ (f i : Nat) (l l' : List AV), lx f s i l = (l', none) → ∃ r, l' = l ++ r ∧ ∀ t ∈ r, tokFrom i t
  | 0, i, l, l', h => by simp only [lx, Prod.mk.injEq] at h; exact ⟨[], by simp [h.1], by simp⟩
  | f + 1, i, l, l', h => by
    simp only [lx] at h
    cases hc : s[i]? with
    | none => rw [hc] at h; simp only [Prod.mk.injEq] at h; exact ⟨[], by simp [h.1], by simp⟩
    | some c =>
      rw [hc] at h
      simp only at h
      cases hb : isBlank c with
      | true =>
        rw [hb] at h
        obtain ⟨r, h1, h2⟩ := lx_ext f _ _ _ h
        refine ⟨r, h1, fun t ht => ?_⟩
        obtain ⟨x1, x2, x3, x4, e, hx⟩ := h2 t ht
        exact ⟨x1, x2, x3, x4, e, by omega⟩
      | false =>
        rw [hb] at h
        simp only [cond_false] at h
        cases ht : tokAt s i with
        | none => rw [ht] at h; simp at h
        | some p =>
          obtain ⟨t, n⟩ := p
          rw [ht] at h
          obtain ⟨r, h1, h2⟩ := lx_ext f _ _ _ h
          refine ⟨t :: r, by simp [h1], fun u hu => ?_⟩
          rcases List.mem_cons.1 hu with rfl | hu
          · exact tokAt_at ht
          · obtain ⟨x1, x2, x3, x4, e, hx⟩ := h2 u hu
            exact ⟨x1, x2, x3, x4, e, by omega⟩
/-- Behind a first token: only that one counts. -/
theorem one_first {s name : List Nat} {k : Int} {f n : Nat} {t : AV} (hb : oneL s name k (lx f s n [t]) = true) : tokOne t name k = true ∧ ltI 2 (↑s.length - ↑name.length) = false := by
  rcases hq : lx f s n [t] with ⟨l', _ | j⟩
  · obtain ⟨r, h1, _⟩ := lx_ext f _ _ _ hq
    rw [hq, h1] at hb
    cases r with
    | nil => simpa [oneL] using hb
    | cons u r => simp [oneL] at hb
  · rw [hq] at hb
    cases l' with
    | nil => simp [oneL] at hb
    | cons u r => cases r <;> simp [oneL] at hb
theorem one_end {s name : List Nat} {k : Int} {f : Nat} {t : AV} (hf : 0 < f) : oneL s name k (lx f s s.length [t]) = (tokOne t name k && !ltI 2 (↑s.length - ↑name.length)) := by
  obtain ⟨g, rfl⟩ : ∃ g, f = g + 1 := ⟨f - 1, by omega⟩
  simp only [lx, List.getElem?_eq_none (Nat.le_refl s.length)]
  rfl
theorem one_later {s name : List Nat} {k : Int} {f i : Nat} (hi : 0 < i) : oneL s name k (lx f s i []) = false := by
  cases hb : oneL s name k (lx f s i []) with
  | false => rfl
  | true =>
    exfalso
    rcases hq : lx f s i [] with ⟨l', _ | j⟩
    · obtain ⟨r, h1, h2⟩ := lx_ext f _ _ _ hq
      rw [hq, h1] at hb
      simp only [List.nil_append] at hb h1
      match r, hb, h2 with
      | [], hb, _ => simp [oneL] at hb
      | [t], hb, h2 =>
        obtain ⟨x1, x2, x3, x4, rfl, hx⟩ := h2 t (List.mem_singleton.2 rfl)
        simp only [oneL, tokOne, Bool.and_eq_true] at hb
        have := intBeq_iff'.1 hb.1.2.2
        omega
      | _ :: _ :: _, hb, _ => simp [oneL] at hb
    · rw [hq] at hb
      cases l' with
      | nil => simp [oneL] at hb
      | cons u r => cases r <;> simp [oneL] at hb
theorem beqI_no {a b : Int} (h : a ≠ b) : intBeq a b = false := by cases hb : intBeq a b with | false => rfl | true => exact absurd (intBeq_iff'.1 hb) h
theorem cnt_full {q : Int → Bool} : ∀ {l : List Nat}, l.all (fun c => q ↑c) = true → cnt q l = l.length
  | [], _ => rfl
  | c :: l, h => by
    simp only [List.all_cons, Bool.and_eq_true] at h
    simp only [cnt, h.1, cond_true, cnt_full h.2, List.length_cons]
theorem letter_more {c : Int} (h : pLetter c = true) : pMore c = true := by simp [pMore, h]
theorem letter_blank {c : Nat} (h : pLetter ↑c = true) : isBlank c = false := by
  simp only [pLetter, Bool.and_eq_true, Bool.not_eq_true', ltI_eq] at h
  simp only [decide_eq_false_iff_not] at h
  simp only [isBlank, Bool.or_eq_false_iff]
  exact ⟨beqI_no (by omega), beqI_no (by omega), beqI_no (by omega)⟩
theorem one_name (s : List Nat) : oneF s s 1 = nameF s := by
  unfold oneF
  cases s with
  | nil => rfl
  | cons c l =>
    simp only [nameF]
    rw [show lx ((c :: l).length + 1) (c :: l) 0 [] = (bif isBlank c then lx (c :: l).length (c :: l) (0 + 1) [] else match tokAt (c :: l) 0 with | some (t, n) => lx (c :: l).length (c :: l) (0 + n) ([] ++ [t]) | none => ([], some 0)) from rfl]
    cases h1 : pLetter ↑c with
    | true =>
      have hm := letter_more h1
      rw [letter_blank h1]
      simp only [cond_false, Bool.true_and]
      have htr : tokRes (c :: l) 0 = nameRes (c :: l) 0 := by unfold tokRes; simp [h1]
      have hcn : cnt pMore (c :: l) = 1 + cnt pMore l := by simp only [cnt, hm, cond_true]; omega
      have hta : tokAt (c :: l) 0 = bif ltI 12 ↑(1 + cnt pMore l) then none else some (tokA (nameKind ((c :: l).take (1 + cnt pMore l))) ((c :: l).take (1 + cnt pMore l)) 0 0, 1 + cnt pMore l) := by
        unfold tokAt
        rw [htr]
        unfold nameRes
        rw [List.drop_zero, hcn]
        cases ltI 12 ↑(1 + cnt pMore l) <;> rfl
      rw [hta]
      have hle := cnt_le pMore l
      generalize hn : 1 + cnt pMore l = n at *
      cases h2 : ltI 12 ↑n with
      | true => simp [oneL]
      | false =>
        have h12 : n ≤ 12 := by rw [show (12 : Int) = ((12 : Nat) : Int) from rfl, ltI_nat] at h2; simpa using h2
        simp only [cond_false, List.nil_append, Nat.zero_add, Bool.not_false, Bool.true_and]
        by_cases he : n = (c :: l).length
        · subst he
          have h20 : ltI 2000 ↑(c :: l).length = false := by rw [show (2000 : Int) = ((2000 : Nat) : Int) from rfl, ltI_nat]; simp; simp at h12; omega
          rw [h20, one_end (by simp), List.take_length, intBeq_iff'.2 (rfl : (↑(c :: l).length : Int) = _)]
          simp only [Int.sub_self, tokA, tokOne, natsBeq_iff.2 (rfl : (c :: l) = _), nameKind, hasF_isW, Bool.not_false, Bool.true_and, Bool.and_true]
          cases isW (c :: l) <;> rfl
        · have hl : intBeq (↑n : Int) ↑(c :: l).length = false := beqI_no (by omega)
          rw [hl, Bool.and_false]
          cases hb : oneL (c :: l) (c :: l) 1 (lx (c :: l).length (c :: l) n [tokA (nameKind ((c :: l).take n)) ((c :: l).take n) 0 0]) with
          | false => simp
          | true =>
            exfalso
            have := (one_first hb).1
            simp only [tokA, tokOne, Bool.and_eq_true, natsBeq_iff] at this
            have := congrArg List.length this.2.1
            simp only [List.length_take, List.length_cons] at this he hle
            omega
    | false =>
      simp only [Bool.false_and]
      cases h2 : isBlank c with
      | true => simp only [cond_true]; rw [one_later (by omega), Bool.and_false]
      | false =>
        simp only [cond_false]
        cases ht : tokAt (c :: l) 0 with
        | none => simp [oneL]
        | some p =>
          obtain ⟨t, n⟩ := p
          simp only [List.nil_append]
          cases hb : oneL (c :: l) (c :: l) 1 (lx (c :: l).length (c :: l) (0 + n) [t]) with
          | false => simp
          | true =>
            exfalso
            have := (one_first hb).1
            obtain ⟨c', k, x, m, hc', rfl, hk⟩ := tokAt_get ht
            simp only [List.getElem?_cons_zero, Option.some.injEq] at hc'
            subst hc'
            simp only [tokA, tokOne, Bool.and_eq_true] at this
            exact hk h1 (intBeq_iff'.1 this.1)
theorem one_text (p : List Nat) : oneF (34 :: (p ++ [34])) p 3 = okT p := by
  unfold oneF
  have hlen : (34 :: (p ++ [34])).length = p.length + 2 := by simp
  rw [show lx ((34 :: (p ++ [34])).length + 1) (34 :: (p ++ [34])) 0 [] = (match tokAt (34 :: (p ++ [34])) 0 with | some (t, n) => lx (34 :: (p ++ [34])).length (34 :: (p ++ [34])) (0 + n) ([] ++ [t]) | none => ([], some 0)) from rfl]
  have hta : tokAt (34 :: (p ++ [34])) 0 = bif okText (34 :: (p ++ [34])) (1 + cnt pPlain (p ++ [34])) (cnt pPlain (p ++ [34])) then some (tokA 3 ((p ++ [34]).take (cnt pPlain (p ++ [34]))) 0 0, cnt pPlain (p ++ [34]) + 2) else none := by
    unfold tokAt
    rw [show tokRes (34 :: (p ++ [34])) 0 = textRes (34 :: (p ++ [34])) 0 from rfl]
    unfold textRes
    simp only [Nat.zero_add, List.drop_succ_cons, List.drop_zero]
    cases okText (34 :: (p ++ [34])) (1 + cnt pPlain (p ++ [34])) (cnt pPlain (p ++ [34])) <;> rfl
  rw [hta]
  have h34 : pPlain ((34 : Nat) : Int) = false := rfl
  cases ha : allP p with
  | true =>
    have hm : cnt pPlain (p ++ [34]) = p.length := cnt_is (c := 34) (by rw [List.take_left]; exact ha) (by simp) h34
    rw [hm, List.take_left]
    have hk : okText (34 :: (p ++ [34])) (1 + p.length) p.length = !ltI 40 ↑p.length := by
      unfold okText
      rw [show (34 :: (p ++ [34]))[1 + p.length]? = some 34 by rw [Nat.add_comm, List.getElem?_cons_succ]; simp]
      simp [show intBeq ((34 : Nat) : Int) 34 = true from rfl, show intBeq (34 : Int) 34 = true from rfl]
    rw [hk]
    unfold okT
    rw [ha]
    cases h4 : ltI 40 ↑p.length with
    | true => simp [oneL]
    | false =>
      have h40 : p.length ≤ 40 := by rw [show (40 : Int) = ((40 : Nat) : Int) from rfl, ltI_nat] at h4; simpa using h4
      have h20 : ltI 2000 ↑(34 :: (p ++ [34])).length = false := by rw [hlen, show (2000 : Int) = ((2000 : Nat) : Int) from rfl, ltI_nat]; simp; omega
      have h2 : ltI 2 (↑(34 :: (p ++ [34])).length - ↑p.length) = false := by rw [hlen, show (↑(p.length + 2) - ↑p.length : Int) = 2 by push_cast; omega]; rfl
      simp only [Bool.not_false, cond_true, List.nil_append, Nat.zero_add, Bool.true_and, h20]
      rw [show p.length + 2 = (34 :: (p ++ [34])).length from hlen.symm, one_end (by simp), h2]
      simp [tokOne, tokA, natsBeq_iff.2 (rfl : p = _), intBeq]
  | false =>
    unfold okT
    rw [ha, Bool.false_and]
    cases hk : okText (34 :: (p ++ [34])) (1 + cnt pPlain (p ++ [34])) (cnt pPlain (p ++ [34])) with
    | false => simp [oneL]
    | true =>
      simp only [cond_true, List.nil_append]
      cases hb : oneL (34 :: (p ++ [34])) p 3 (lx (34 :: (p ++ [34])).length (34 :: (p ++ [34])) (0 + (cnt pPlain (p ++ [34]) + 2)) [tokA 3 ((p ++ [34]).take (cnt pPlain (p ++ [34]))) 0 0]) with
      | false => simp
      | true =>
        exfalso
        have := (one_first hb).1
        simp only [tokA, tokOne, Bool.and_eq_true, natsBeq_iff] at this
        have h5 := cnt_take pPlain (p ++ [34])
        rw [this.2.1] at h5
        unfold allP at ha
        rw [h5] at ha
        cases ha
end Go.Proofs.YtncccgglillmoaaGreatDoor.Lx
