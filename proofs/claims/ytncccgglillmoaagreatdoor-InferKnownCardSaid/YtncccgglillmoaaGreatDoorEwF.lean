/- What Sort and Compact come to: the row that rises and has the same members. -/
import Derived.Lib.SlicesCompact
set_option autoImplicit false
set_option linter.unusedVariables false
set_option linter.unusedSectionVars false
namespace Go.Ev
section
variable {α : Type} [Inhabited α] [DecidableEq α] {le : α → α → Prop}
theorem upTo_mem (d : Array α) (m : Nat) (x : α) : x ∈ Lib.compactUpTo d m ↔ ∃ j, j < m ∧ d[j]! = x := by
  simp only [Lib.compactUpTo, List.mem_map, List.mem_filter, List.mem_range]
  constructor
  · rintro ⟨j, ⟨h1, _⟩, h3⟩; exact ⟨j, h1, h3⟩
  · rintro ⟨j, h1, h3⟩
    induction j with
    | zero => exact ⟨0, ⟨h1, by simp [Lib.keeps]⟩, h3⟩
    | succ j ih =>
      by_cases h : d[j + 1]! = d[j]!
      · exact ih (by omega) (by rw [← h]; exact h3)
      · exact ⟨j + 1, ⟨h1, by simp [Lib.keeps, h]⟩, h3⟩
theorem upTo_strict (tr : ∀ a b c, le a b → le b c → le a c) (an : ∀ a b, le a b → le b a → a = b) (d : Array α) (hd : ∀ i j, i < j → j < d.size → le d[i]! d[j]!) (rf : ∀ a, le a a) :
    ∀ m, m ≤ d.size → (Lib.compactUpTo d m).Pairwise fun x y => le x y ∧ x ≠ y
  | 0, _ => by simp [Lib.compactUpTo]
  | m + 1, hm => by
    rw [Lib.compactUpTo_succ]
    have ih := upTo_strict tr an d hd rf m (by omega)
    by_cases hk : Lib.keeps d m
    · rw [if_pos hk, List.pairwise_append]
      refine ⟨ih, by simp, fun x hx y hy => ?_⟩
      obtain ⟨j, hj, rfl⟩ := (upTo_mem d m x).1 hx
      simp only [List.mem_singleton] at hy
      subst hy
      refine ⟨hd j m hj (by omega), fun e => ?_⟩
      simp only [Lib.keeps, decide_eq_true_eq] at hk
      rcases hk with h | h
      · omega
      · refine h (an _ _ ?_ (hd (m - 1) m (by omega) (by omega)))
        rw [← e]
        by_cases h' : j = m - 1
        · rw [h']; exact rf _
        · exact hd j (m - 1) (by omega) (by omega)
    · rw [if_neg hk, List.append_nil]; exact ih
theorem compact_sorted (rf : ∀ a, le a a) (tr : ∀ a b c, le a b → le b c → le a c) (an : ∀ a b, le a b → le b a → a = b) {zs : List α} (h : zs.Pairwise le) :
    (Lib.compact zs).Pairwise (fun x y => le x y ∧ x ≠ y) ∧ ∀ x, x ∈ Lib.compact zs ↔ x ∈ zs := by
  refine ⟨upTo_strict tr an _ (fun i j hij hj => ?_) rf _ (by simp), fun x => ?_⟩
  · have hj' : j < zs.length := by simpa using hj
    have := List.pairwise_iff_getElem.1 h i j (by omega) hj' hij
    simpa [getElem!_pos, hj', show i < zs.length by omega] using this
  · unfold Lib.compact
    rw [upTo_mem, List.mem_iff_getElem]
    constructor
    · rintro ⟨j, hj, e⟩; exact ⟨j, hj, by rw [← e]; simp [hj]⟩
    · rintro ⟨j, hj, e⟩; exact ⟨j, hj, by rw [← e]; simp [hj]⟩
theorem strict_eq (an : ∀ a b, le a b → le b a → a = b) : ∀ {l m : List α}, l.Pairwise (fun x y => le x y ∧ x ≠ y) → m.Pairwise (fun x y => le x y ∧ x ≠ y) → (∀ x, x ∈ l ↔ x ∈ m) → l = m
  | [], [], _, _, _ => rfl
  | [], b :: m, _, _, h => by have := (h b).2 (List.mem_cons_self ..); simp at this
  | a :: l, [], _, _, h => by have := (h a).1 (List.mem_cons_self ..); simp at this
  | a :: l, b :: m, hl, hm, h => by
    rw [List.pairwise_cons] at hl hm
    have e : a = b := by
      rcases List.mem_cons.1 ((h a).1 (List.mem_cons_self ..)) with e | e
      · exact e
      · rcases List.mem_cons.1 ((h b).2 (List.mem_cons_self ..)) with e2 | e2
        · exact e2.symm
        · exact an _ _ (hl.1 b e2).1 (hm.1 a e).1
    subst e
    rw [strict_eq an hl.2 hm.2 fun x => ?_]
    constructor
    · intro hx
      rcases List.mem_cons.1 ((h x).1 (List.mem_cons_of_mem _ hx)) with e | e
      · exact absurd e.symm (hl.1 x hx).2
      · exact e
    · intro hx
      rcases List.mem_cons.1 ((h x).2 (List.mem_cons_of_mem _ hx)) with e | e
      · exact absurd e.symm (hm.1 x hx).2
      · exact e
end
end Go.Ev
