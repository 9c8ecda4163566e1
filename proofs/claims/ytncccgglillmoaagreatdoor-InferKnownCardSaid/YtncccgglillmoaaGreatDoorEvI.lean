/- Each operation of the abstract machine is the model's: what hangs on the operands alone. -/
import Derived.Test.YtncccgglillmoaaGreatDoorEvF
import Derived.Test.YtncccgglillmoaaGreatDoorEvG
import Derived.Laws.Tables
import Derived.Laws.Slices
import Derived.Laws.Strings2
import Derived.Lib.Strings
set_option autoImplicit false
set_option linter.unusedSectionVars false
set_option linter.unusedVariables false
set_option linter.unusedSimpArgs false
namespace Go.Ev
variable [Inhabited KA0] [MT]

/-! ### Rows as one list of cells -/
theorem flat_get {α β : Type} (f : α → List β) (s : Nat) : ∀ (l : List α), (∀ x ∈ l, (f x).length = s) → ∀ (i j : Nat) x y, l[i]? = some x → (f x)[j]? = some y → (l.flatMap f)[i * s + j]? = some y
  | [], _, i, j, x, y, hx, _ => by simp at hx
  | a :: l, hs, 0, j, x, y, hx, hy => by
    simp at hx
    subst hx
    rw [List.flatMap_cons, Nat.zero_mul, Nat.zero_add, List.getElem?_append_left (getElem?_lt hy)]
    exact hy
  | a :: l, hs, i + 1, j, x, y, hx, hy => by
    simp at hx
    have ha := hs a (by simp)
    rw [List.flatMap_cons, List.getElem?_append_right (by rw [ha, Nat.add_mul]; omega), ha]
    have := flat_get f s l (fun z hz => hs z (by simp [hz])) i j x y hx hy
    rw [← this]
    congr 1
    rw [Nat.add_mul]; omega
theorem flat_length {α β : Type} (f : α → List β) (s : Nat) : ∀ (l : List α), (∀ x ∈ l, (f x).length = s) → (l.flatMap f).length = l.length * s
  | [], _ => by simp
  | a :: l, hs => by
    rw [List.flatMap_cons, List.length_append, hs a (by simp), flat_length f s l fun x hx => hs x (by simp [hx]), List.length_cons, Nat.add_mul]
    omega

theorem fold_splice : ∀ (l : List Value) (cs : Array Value) (off j0 : Nat), off + j0 + l.length ≤ cs.size →
    ((l.zipIdx j0).foldl (fun cs (x : Value × Nat) => cs.setIfInBounds (off + x.2) x.1) cs).toList = cs.toList.take (off + j0) ++ l ++ cs.toList.drop (off + j0 + l.length)
  | [], cs, off, j0, h => by simp
  | v :: l, cs, off, j0, h => by
    simp only [List.zipIdx_cons, List.foldl_cons]
    rw [fold_splice l _ off (j0 + 1) (by simp at h ⊢; omega)]
    have hlt : off + j0 < cs.toList.length := by simp at h ⊢; omega
    have hset : (cs.setIfInBounds (off + j0) v).toList = cs.toList.take (off + j0) ++ v :: cs.toList.drop (off + j0 + 1) := by
      rw [Array.toList_setIfInBounds, List.set_eq_take_append_cons_drop, if_pos hlt]
    rw [hset]
    have hA : (cs.toList.take (off + j0)).length = off + j0 := by simp at hlt ⊢; omega
    generalize cs.toList.take (off + j0) = A at *
    have e1 : (A ++ v :: cs.toList.drop (off + j0 + 1)).take (off + (j0 + 1)) = A ++ [v] := by
      rw [show off + (j0 + 1) = A.length + 1 by omega, List.take_append, List.take_of_length_le (Nat.le_succ _)]
      simp
    have e2 : (A ++ v :: cs.toList.drop (off + j0 + 1)).drop (off + (j0 + 1) + l.length) = cs.toList.drop (off + j0 + (l.length + 1)) := by
      rw [show off + (j0 + 1) + l.length = A.length + (l.length + 1) by omega, List.drop_append, List.drop_of_length_le (Nat.le_add_right _ _)]
      rw [Nat.add_sub_cancel_left, List.drop_succ_cons, List.drop_drop, List.nil_append]
      congr 1
      omega
    rw [e1, e2, List.length_cons]
    simp

section
variable {P : Program} {G : Gh} {w : World} {h : H}

theorem VRs.flat : ∀ {a : List Value} {c : List AV}, VRs G w a c → VRs G w (a.flatMap fun v => v.cells.toList) (c.flatMap AV.cells)
  | [], c, r => by
    cases c with
    | nil => exact VRs.nil G w
    | cons x c => have := r.1; simp at this
  | v :: a, c, r => by
    cases c with
    | nil => have := r.1; simp at this
    | cons x c =>
      obtain ⟨v', b, e, h1, h2⟩ := r.uncons
      simp only [List.cons.injEq] at e
      obtain ⟨rfl, rfl⟩ := e
      rw [List.flatMap_cons, List.flatMap_cons]
      exact h1.cells.append (VRs.flat h2)

theorem allVals_VRs {tm : Tm} {ρ : Operand → Value} : ∀ {l : List Operand} {vs : List AV}, allVals tm l = some vs → (∀ x ∈ l, ∀ u, val tm x = some u → VR G w (ρ x) u) → VRs G w (l.map ρ) vs
  | [], vs, h, _ => by simp [allVals] at h; subst h; exact VRs.nil G w
  | x :: l, vs, h, hv => by
    simp only [allVals] at h
    cases hx : val tm x with
    | none => rw [hx] at h; simp at h
    | some v =>
      rw [hx] at h
      simp only at h
      cases hl : allVals tm l with
      | none => rw [hl] at h; simp at h
      | some m =>
        rw [hl] at h
        simp only [Option.some.injEq] at h
        subst h
        exact .cons (hv x (by simp) v hx) (allVals_VRs hl fun y hy => hv y (by simp [hy]))

/-- A slice of values in new memory. -/
theorem VR.sl_new {cells : List Value} {e : Nat} {els : List AV} {s : Nat} (hs : ∀ x ∈ els, x.cells.length = s) (hc : VRs G w cells (els.flatMap AV.cells)) (I : Inv G w h) :
    VR G (w.alloc (.cells cells.toArray e)) (.slice (some ⟨w.heap.size, 0, none⟩) els.length els.length) (.sl .full els) := by
  have hf : G.fr w.heap.size = none := I.fresh.2.2
  have E := alloc_ext I (.cells cells.toArray e)
  have hlen : cells.length = els.length * s := by rw [hc.1]; exact flat_length _ s els hs
  refine .sl w.heap.size 0 els.length els.length s .full els (fun i j => cells.getD (i * s + j) undef) rfl (Nat.le_refl _) hs (fun i j hi hj => ⟨?_, .inl hf⟩) (fun i j x y hx hy => ?_) rfl
  · have hlt : i * s + j < cells.length := by
      rw [hlen]
      have : (i + 1) * s ≤ els.length * s := Nat.mul_le_mul_right s hi
      rw [Nat.add_mul] at this
      omega
    rw [cell_at (heap_alloc_new w _)]
    simp [List.getD_eq_getElem?_getD, List.getElem?_eq_getElem hlt, hlt]
  · have hg := flat_get AV.cells s els hs i j x y hx hy
    have hlt := getElem?_lt hg
    rw [← hc.1] at hlt
    have hu : cells[i * s + j]? = some cells[i * s + j] := List.getElem?_eq_getElem hlt
    have := hc.2 _ _ _ hu hg
    rw [List.getD_eq_getElem?_getD, hu]
    exact this.mono E

theorem fill_dense (size : Nat) : ∀ (Vs : List Value) (k : Nat) (Z : Array Value), (∀ V ∈ Vs, V.cells.size = size) → (k + Vs.length) * size = Z.size →
    ∃ C, Instr.fill (fun i => some (i * size, size)) Z ((List.range' k Vs.length).zip Vs) = some C ∧ C.toList = Z.toList.take (k * size) ++ Vs.flatMap (fun v => v.cells.toList)
  | [], k, Z, _, h => ⟨Z, by simp [Instr.fill], by
      simp at h ⊢
      rw [List.take_of_length_le (by simp; omega)]⟩
  | V :: Vs, k, Z, hV, h => by
    have h1 := hV V (by simp)
    simp only [List.length_cons] at h
    have hk : k * size + size ≤ Z.size := by
      rw [← h]
      have : (k + 1) * size ≤ (k + (Vs.length + 1)) * size := Nat.mul_le_mul_right _ (by omega)
      rw [Nat.add_mul] at this
      omega
    rw [List.length_cons, List.range'_succ, List.zip_cons_cons]
    simp only [Instr.fill, h1, ne_eq, not_true_eq_false, decide_false, Bool.false_or, gt_iff_lt]
    rw [if_neg (by simpa using hk)]
    have hsp := fold_splice V.cells.toList Z (k * size) 0 (by simp; omega)
    simp only [Nat.add_zero] at hsp
    have hzl : (V.cells.zipIdx.foldl (fun cs (x : Value × Nat) => cs.setIfInBounds (k * size + x.2) x.1) Z) = (V.cells.toList.zipIdx.foldl (fun cs (x : Value × Nat) => cs.setIfInBounds (k * size + x.2) x.1) Z) := by
      rw [← Array.foldl_toList, Array.toList_zipIdx]
    obtain ⟨C, hC1, hC2⟩ := fill_dense size Vs (k + 1) (V.cells.zipIdx.foldl (fun cs (x : Value × Nat) => cs.setIfInBounds (k * size + x.2) x.1) Z) (fun U hU => hV U (by simp [hU])) (by
      rw [hzl]
      have := congrArg List.length hsp
      simp at this
      have e3 : k + 1 + Vs.length = k + (Vs.length + 1) := by omega
      rw [e3, h]
      omega)
    refine ⟨C, hC1, ?_⟩
    rw [hC2, hzl, hsp]
    have e2 : (Z.toList.take (k * size) ++ V.cells.toList).length = (k + 1) * size := by simp [h1]; rw [Nat.add_mul]; omega
    rw [List.take_append_of_le_length (by omega), ← e2, List.take_length]
    simp
end

end Go.Ev
