/- Arguments of plain kinds (numbers, truth values, texts, rows, structs of these), opened: the machine's values for them. -/
import Derived.Test.YtncccgglillmoaaGreatDoorEwA
set_option autoImplicit false
set_option linter.unusedSectionVars false
set_option linter.unusedVariables false
set_option linter.unusedSimpArgs false
namespace Go.Ev
variable [MT]
variable [Inhabited KA0]

/-- What cells of a type may be. -/
inductive Shp (P : Program) : Nat → List AV → Prop
  | int (t : Nat) (k : IntKind) (n : Int) (h : P.underlying t = some (.int k)) (hw : (Lit.int k n).wf = true) : Shp P t [.int k n]
  | bool (t : Nat) (b : Bool) (h : P.underlying t = some .bool) : Shp P t [.bool b]
  | str (t : Nat) (s : ByteArray) (h : P.underlying t = some .string) (hs : s.size ≤ maxLen) : Shp P t [.str (bytesOf s)]
  | sl (t e : Nat) (els : List AV) (h : P.underlying t = some (.slice e)) (hl : els.length ≤ maxLen) (hx : ∀ x ∈ els, Shp P e x.cells)
      (ha : ∀ x ∈ els, match P.underlying e with | some (.struct _) => ∃ cs, x = .agg cs | _ => x.cells = [x]) : Shp P t [.sl .no els]
  | st (t : Nat) (fs : Array Field) (ps : List (Nat × List AV)) (h : P.underlying t = some (.struct fs)) (hf : ps.map (·.1) = fs.toList.map (·.type)) (hp : ∀ p ∈ ps, Shp P p.1 p.2) : Shp P t (ps.flatMap (·.2))

/-- Fields, one behind the other. -/
def rowB (P : Program) : Nat → List Field → Bool
  | _, [] => true
  | o, f :: l => f.offset == o && rowB P (o + P.cellsOf f.type) l
def closedB (P : Program) (S : List Nat) : Bool := S.all fun t => match P.underlying t with
  | some (.int _) | some .bool | some .string => P.cellsOf t == 1
  | some (.slice e) => S.contains e && Nat.blt 0 (P.cellsOf e) && P.cellsOf t == 1
  | some (.struct fs) => (fs.toList.all fun f => S.contains f.type) && rowB P 0 fs.toList && P.cellsOf t == (fs.toList.map fun f => P.cellsOf f.type).sum
  | _ => false

theorem list_of {α : Type} {p : Nat → α → Prop} : ∀ (n : Nat), (∀ i, i < n → ∃ x, p i x) → ∃ l : List α, l.length = n ∧ ∀ i x, l[i]? = some x → p i x
  | 0, _ => ⟨[], rfl, fun i x h => by simp at h⟩
  | n + 1, h => by
    obtain ⟨l, h1, h2⟩ := list_of n fun i hi => h i (by omega)
    obtain ⟨x, hx⟩ := h n (by omega)
    refine ⟨l ++ [x], by simp [h1], fun i y hy => ?_⟩
    by_cases hi : i < n
    · rw [List.getElem?_append_left (by omega)] at hy; exact h2 i y hy
    · rw [List.getElem?_append_right (by omega)] at hy
      have : i - l.length = 0 := by have := getElem?_lt hy; simp at this; omega
      rw [this] at hy
      simp at hy
      subst hy
      rw [show i = n by omega]
      exact hx

section
variable {H : Type} {enc : TypeId × Value → H} {P : Program} {W : World} {sp : Nat → Bool} {held : Bool}
theorem cell_spot {a : Addr} {v : Value} (h : W.cell? a = some v) : a.spot = none := by
  unfold World.cell? at h
  cases hs : a.spot with
  | none => rfl
  | some s =>
    exfalso
    split at h <;> simp [hs] at h
theorem flat_len {α : Type} (f : α → List AV) : ∀ l : List α, (l.flatMap f).length = (l.map fun a => (f a).length).sum
  | [] => rfl
  | a :: l => by simp [flat_len f l]

theorem open_cells {S : List Nat} (hS : closedB P S = true) : ∀ (fuel t : Nat) (cs : List Value) (x : DataW H × List MemPlace), t ∈ S → DataW.trod enc P W 0 sp held fuel t cs = some x →
    ∃ as : List AV, VRs (G0 W) W cs as ∧ Shp P t as ∧ as.length = P.cellsOf t ∧ (match P.underlying t with | some (.struct _) => True | _ => ∃ y, as = [y] ∧ y.cells = [y])
  | 0, t, cs, x, _, h => by simp [DataW.trod] at h
  | fuel + 1, t, cs, x, ht, h => by
    have hc := List.all_eq_true.1 hS t ht
    cases hu : P.underlying t with
    | none => rw [hu] at hc; simp at hc
    | some d =>
      rw [hu] at hc
      cases d
      case int k =>
        obtain ⟨n, rfl, _, hw⟩ := DataW.trod_int hu h
        exact ⟨[.int k n], .cons (.int k n) (.nil _ _), .int t k n hu hw, by simp at hc; simp [hc], _, rfl, rfl⟩
      case bool =>
        obtain ⟨b, rfl, _⟩ := DataW.trod_bool hu h
        exact ⟨[.bool b], .cons (.bool b) (.nil _ _), .bool t b hu, by simp at hc; simp [hc], _, rfl, rfl⟩
      case string =>
        obtain ⟨s, rfl, _, hs⟩ := DataW.trod_string hu h
        exact ⟨[.str (bytesOf s)], .cons (.str s) (.nil _ _), .str t s hu hs, by simp at hc; simp [hc], _, rfl, rfl⟩
      case slice e =>
        simp only [Bool.and_eq_true, beq_iff_eq] at hc
        obtain ⟨⟨hc1, hc2⟩, hc3⟩ := hc
        have heS : e ∈ S := by simpa using hc1
        have hpos := blt_nat.1 hc2
        rcases DataW.trod_slice hu h with ⟨rfl, _⟩ | ⟨a, len, cap, elems, rest, n, hn, rfl, _, _, hlc, hcm, hlen, hel, _⟩
        · exact ⟨[.sl .no []], .cons (.sl0 none 0 .no (fun _ => rfl) trivial) (.nil _ _), .sl t e [] hu (Nat.zero_le _) (fun x hx => by simp at hx) (fun x hx => by simp at hx), by simp [hc3], _, rfl, rfl⟩
        · obtain rfl : n = fuel := by omega
          have hE : ∀ i, i < len → ∃ x : AV, (∃ cs', W.cells? 0 (a.add (i * P.cellsOf e)) (P.cellsOf e) = some cs' ∧ VRs (G0 W) W cs' x.cells) ∧ Shp P e x.cells ∧ x.cells.length = P.cellsOf e ∧ (match P.underlying e with | some (.struct _) => ∃ cs, x = .agg cs | _ => x.cells = [x]) := by
            intro i hi
            have := hel i hi
            rw [List.getElem?_eq_getElem (by omega)] at this
            obtain ⟨cs', h1, h2⟩ := Option.bind_eq_some_iff.1 this
            obtain ⟨as, k1, k2, k3, k4⟩ := open_cells hS n e cs' _ heS h2
            cases hue : P.underlying e with
            | none => rw [hue] at k4; obtain ⟨y, rfl, hy⟩ := k4; exact ⟨y, ⟨cs', h1, by rw [hy]; exact k1⟩, by rw [hy]; exact k2, by rw [hy]; exact k3, hy⟩
            | some d =>
              cases d with
              | struct fs => exact ⟨.agg as, ⟨cs', h1, k1⟩, k2, k3, as, rfl⟩
              | _ => rw [hue] at k4; obtain ⟨y, rfl, hy⟩ := k4; exact ⟨y, ⟨cs', h1, by rw [hy]; exact k1⟩, by rw [hy]; exact k2, by rw [hy]; exact k3, hy⟩
          obtain ⟨els, hl1, hl2⟩ := list_of len hE
          have hmem : ∀ x ∈ els, ∃ i, els[i]? = some x := fun x hx => List.getElem?_of_mem hx
          refine ⟨[.sl .no els], .cons ?_ (.nil _ _), .sl t e els hu (by omega) (fun x hx => ?_) (fun x hx => ?_), by simp [hc3], _, rfl, rfl⟩
          · by_cases h0 : len = 0
            · subst h0
              obtain rfl := List.eq_nil_of_length_eq_zero hl1
              exact .sl0 (some a) cap .no (fun h => by simp at h) trivial
            · -- a place of its own
              obtain ⟨⟨cs0, h1, _⟩, _⟩ := hl2 0 els[0] (List.getElem?_eq_getElem (by omega))
              obtain ⟨_, c2, c3⟩ := World.cells?_some h1
              have hs0 : a.spot = none := by
                have := c3 0 hpos
                rw [List.getElem?_eq_getElem (by omega)] at this
                simp [Addr.add] at this
                exact cell_spot this
              obtain ⟨ab, ao, asp⟩ := a
              simp only at hs0
              subst hs0
              have hcell : ∀ i j y, els[i]? = some y → j < P.cellsOf e → ∃ v, W.cell? ⟨ab, ao + i * P.cellsOf e + j, none⟩ = some v ∧ ∀ z, y.cells[j]? = some z → VR (G0 W) W v z := by
                intro i j y hy hj
                obtain ⟨⟨cs', h1, h2⟩, _⟩ := hl2 i y hy
                obtain ⟨_, c2, c3⟩ := World.cells?_some h1
                have := c3 j hj
                rw [List.getElem?_eq_getElem (by omega)] at this
                rw [addr_add, addr_add] at this
                exact ⟨_, this, fun z hz => h2.2 j _ z (List.getElem?_eq_getElem (by omega)) hz⟩
              refine .sl ab ao len cap (P.cellsOf e) .no els (fun i j => (W.cell? ⟨ab, ao + i * P.cellsOf e + j, none⟩).getD undef) hl1 hlc (fun x hx => ?_) (fun i j hi hj => ?_) (fun i j x y hx hy => ?_) trivial
              · obtain ⟨i, hi⟩ := hmem x hx
                exact (hl2 i x hi).2.2.1
              · obtain ⟨v, hv, _⟩ := hcell i j _ (List.getElem?_eq_getElem (by omega)) hj
                exact ⟨by rw [hv]; rfl, .inl rfl⟩
              · have hj : j < P.cellsOf e := by
                  have := getElem?_lt hy
                  have := (hl2 i x hx).2.2.1
                  omega
                obtain ⟨v, hv, hz⟩ := hcell i j x hx hj
                rw [hv]
                exact hz y hy
          · obtain ⟨i, hi⟩ := hmem x hx
            exact (hl2 i x hi).2.1
          · obtain ⟨i, hi⟩ := hmem x hx
            exact (hl2 i x hi).2.2.2
      case struct fs =>
        simp only [Bool.and_eq_true, beq_iff_eq] at hc
        obtain ⟨⟨hc1, hc2⟩, hc3⟩ := hc
        obtain ⟨xs, n, hn, _, hlen, hxl, hf⟩ := DataW.trod_struct hu h
        obtain rfl : n = fuel := by omega
        have hfS : ∀ f ∈ fs.toList, f.type ∈ S := fun f hm => by
          have := List.all_eq_true.1 hc1 f hm
          simpa using this
        -- the fields, one behind the other
        have go : ∀ (l : List Field) (o : Nat) (cs : List Value), rowB P o l = true → (∀ f ∈ l, f.type ∈ S) → (∀ f ∈ l, ∃ y, DataW.trod enc P W 0 sp held n f.type ((cs.drop f.offset).take (P.cellsOf f.type)) = some y) →
            o + (l.map fun f => P.cellsOf f.type).sum = cs.length →
            ∃ ps : List (Nat × List AV), ps.map (·.1) = l.map (·.type) ∧ (∀ p ∈ ps, Shp P p.1 p.2) ∧ VRs (G0 W) W (cs.drop o) (ps.flatMap (·.2)) ∧ (ps.flatMap (·.2)).length = (l.map fun f => P.cellsOf f.type).sum := by
          intro l
          induction l with
          | nil =>
            intro o cs _ _ _ hl
            simp at hl
            refine ⟨[], rfl, fun p hp => by simp at hp, ?_, rfl⟩
            rw [List.drop_eq_nil_of_le (by omega)]
            exact .nil _ _
          | cons f l ih =>
            intro o cs hr hS2 hy hl
            simp only [rowB, Bool.and_eq_true, beq_iff_eq] at hr
            obtain ⟨hr1, hr2⟩ := hr
            simp only [List.map_cons, List.sum_cons] at hl
            obtain ⟨y, hy1⟩ := hy f (List.mem_cons_self ..)
            obtain ⟨as, k1, k2, k3, _⟩ := open_cells hS n f.type _ y (hS2 f (List.mem_cons_self ..)) hy1
            obtain ⟨ps, q1, q2, q3, q4⟩ := ih (o + P.cellsOf f.type) cs hr2 (fun g hg => hS2 g (List.mem_cons_of_mem _ hg)) (fun g hg => hy g (List.mem_cons_of_mem _ hg)) (by omega)
            refine ⟨(f.type, as) :: ps, by simp [q1], fun p hp => ?_, ?_, by simp only [List.flatMap_cons, List.length_append, List.map_cons, List.sum_cons, k3, q4]⟩
            · rcases List.mem_cons.1 hp with rfl | hp
              · exact k2
              · exact q2 p hp
            · rw [hr1] at k1
              have : cs.drop o = (cs.drop o).take (P.cellsOf f.type) ++ cs.drop (o + P.cellsOf f.type) := by
                rw [← List.drop_drop, List.take_append_drop]
              rw [this, List.flatMap_cons]
              exact k1.append q3
        obtain ⟨ps, q1, q2, q3, q4⟩ := go fs.toList 0 cs hc2 hfS (fun f hm => by
          obtain ⟨i, hi⟩ := List.getElem?_of_mem hm
          have hi' : fs[i]? = some f := by simpa using hi
          have := hf i f hi'
          have hil : i < xs.length := by rw [hxl]; have := getElem?_lt hi; simpa using this
          rw [List.getElem?_eq_getElem hil] at this
          exact ⟨_, this⟩) (by rw [hlen, hc3]; omega)
        exact ⟨ps.flatMap (·.2), by simpa using q3, .st t fs ps hu q1 q2, by rw [q4, hc3], trivial⟩
      all_goals exact absurd hc (by simp)

theorem trodAll_open {S : List Nat} (hS : closedB P S = true) {t : Nat} (ht : t ∈ S) {v : Value} {d : DataW H} {ps : List MemPlace} (h : DataW.Trod enc P W 0 sp held t v d ps) :
    ∃ as : List AV, VRs (G0 W) W v.cells.toList as ∧ Shp P t as := by
  obtain ⟨fuel, hf⟩ := h
  obtain ⟨as, h1, h2, _⟩ := open_cells hS fuel t _ _ ht hf
  exact ⟨as, h1, h2⟩
end
end Go.Ev
