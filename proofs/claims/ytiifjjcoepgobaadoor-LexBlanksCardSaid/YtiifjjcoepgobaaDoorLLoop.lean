/- All tokens of a text, told as a function; the program's loop comes to it. -/
import Derived.Test.YtiifjjcoepgobaaDoorLToks
set_option autoImplicit false
set_option maxRecDepth 100000
set_option linter.unusedSimpArgs false
set_option linter.unusedVariables false
namespace Go.Proofs.YtiifjjcoepgobaaDoor.Env
open Go.Ev

theorem cnt_pos {q : Int → Bool} {s : List Nat} {a c : Nat} (hc : s[a]? = some c) (hq : q ↑c = true) : 0 < cnt q (s.drop a) := by
  have h : s.drop a = c :: s.drop (a + 1) := by
    have hlt := getElem?_lt hc
    rw [List.drop_eq_getElem_cons hlt]
    rw [List.getElem?_eq_getElem hlt] at hc
    simp only [Option.some.injEq] at hc
    rw [hc]
  rw [h]
  simp [cnt, hq]
theorem firstF_len {d : List Nat} : ∀ {ws : List (List Nat)} {w : List Nat}, firstF d ws = some w → w ∈ ws ∧ w.length ≤ d.length
  | [], w, h => by simp [firstF] at h
  | x :: l, w, h => by
    simp only [firstF] at h
    cases hb : preF d x with
    | true =>
      rw [hb] at h
      simp only [cond_true, Option.some.injEq] at h
      subst h
      refine ⟨List.mem_cons_self .., ?_⟩
      simp only [preF, Bool.and_eq_true, Bool.not_eq_true'] at hb
      have := hb.1
      rw [ltI_nat] at this
      simpa using this
    | false =>
      rw [hb] at h
      obtain ⟨h1, h2⟩ := firstF_len h
      exact ⟨List.mem_cons_of_mem _ h1, h2⟩
/-- A token has a byte, and lies in the text. -/
theorem tok_len {s : List Nat} {a c : Nat} (hc : s[a]? = some c) {t : AV} {n : Int} (h : tokRes s a = .tup [t, .int .i64 n, .bool true]) : ∃ m : Nat, n = ↑m ∧ 0 < m ∧ a + m ≤ s.length := by
  have hlt := getElem?_lt hc
  unfold tokRes at h
  rw [hc] at h
  simp only at h
  cases h1 : pLetter ↑c with
  | true =>
    rw [h1] at h
    simp only [cond_true, nameRes, AV.tup.injEq, List.cons.injEq, AV.int.injEq, true_and] at h
    have hp := cnt_pos (q := pMore) hc (by simp [pMore, h1])
    have hl := cnt_le pMore (s.drop a)
    rw [List.length_drop] at hl
    exact ⟨_, h.2.1.symm, hp, by omega⟩
  | false =>
    rw [h1] at h
    cases h2 : pDigit ↑c with
    | true =>
      rw [h2] at h
      simp only [cond_true, cond_false, numRes] at h
      have hp := cnt_pos (q := pDigit) hc h2
      have hl := cnt_le pDigit (s.drop a)
      rw [List.length_drop] at hl
      cases hb : numBad s a (cnt pDigit (s.drop a)) with
      | true => rw [hb] at h; simp at h
      | false =>
        rw [hb] at h
        simp only [cond_false, AV.tup.injEq, List.cons.injEq, AV.int.injEq, true_and] at h
        exact ⟨_, h.2.1.symm, hp, by omega⟩
    | false =>
      rw [h2] at h
      cases h3 : intBeq ↑c 34 with
      | true =>
        rw [h3] at h
        simp only [cond_true, cond_false, textRes, AV.tup.injEq, List.cons.injEq, AV.int.injEq, true_and, AV.bool.injEq, and_true] at h
        have hl := cnt_le pPlain (s.drop (a + 1))
        rw [List.length_drop] at hl
        obtain ⟨_, h5, h6⟩ := h
        unfold okText at h6
        cases he : s[a + 1 + cnt pPlain (s.drop (a + 1))]? with
        | none => rw [he] at h6; simp at h6
        | some e =>
          have := getElem?_lt he
          exact ⟨cnt pPlain (s.drop (a + 1)) + 2, by rw [← h5], by omega, by omega⟩
      | false =>
        rw [h3] at h
        simp only [cond_false, signRes] at h
        cases hf : firstF (s.drop a) signsL with
        | none => rw [hf] at h; simp at h
        | some w =>
          rw [hf] at h
          simp only [AV.tup.injEq, List.cons.injEq, AV.int.injEq, true_and] at h
          obtain ⟨g1, g2⟩ := firstF_len hf
          have hw : ∀ w ∈ signsL, 0 < w.length := by decide
          have := hw w g1
          rw [List.length_drop] at g2
          exact ⟨_, h.2.1.symm, this, by omega⟩
end Go.Proofs.YtiifjjcoepgobaaDoor.Env
