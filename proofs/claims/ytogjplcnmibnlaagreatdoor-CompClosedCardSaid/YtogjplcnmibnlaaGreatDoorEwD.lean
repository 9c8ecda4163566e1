/- Arguments of plain kinds (numbers, truth values, texts, rows, structs of these), opened: the machine's values for them. -/
import Derived.Test.YtogjplcnmibnlaaGreatDoorEwA
set_option autoImplicit false
set_option maxRecDepth 100000
set_option linter.unusedSimpArgs false
set_option linter.unusedVariables false
set_option linter.unusedSectionVars false
namespace Go.Ev
variable [MT]
variable [Inhabited KA0]

/-- What cells of a type may be. -/
inductive Shp (P : Program) : Nat → List AV → Prop
  | int (t : Nat) (k : IntKind) (n : Int) (h : P.underlying t = some (.int k)) (hw : (Lit.int k n).wf = true) : Shp P t [.int k n]
  | bool (t : Nat) (b : Bool) (h : P.underlying t = some .bool) : Shp P t [.bool b]
  | str (t : Nat) (s : ByteArray) (h : P.underlying t = some .string) (hs : s.size ≤ maxLen) : Shp P t [.str (bytesOf s)]
  | sl (t e : Nat) (els : List AV) (h : P.underlying t = some (.slice e)) (hl : els.length ≤ maxLen) (hx : ∀ x ∈ els, Shp P e x.cells)
      (ha : ∀ x ∈ els, match P.underlying e with | some (.struct _) => ∃ cs, x = .agg cs | _ => x.cells = [x]) : Shp P t [.sl .no els]
  | st (t : Nat) (fs : Array Field) (ps : List (Nat × List AV)) (h : P.underlying t = some (.struct fs)) (hf : ps.map (·.1) = fs.toList.map (·.type)) (hp : ∀ p ∈ ps, Shp P p.1 p.2) : Shp P t (ps.flatMap (·.2))

/-- Fields, one behind the other. -/
def rowB (P : Program) : Nat → List Field → Bool
  | _, [] => true
  | o, f :: l => f.offset == o && rowB P (o + P.cellsOf f.type) l
def closedB (P : Program) (S : List Nat) : Bool := S.all fun t => match P.underlying t with
  | some (.int _) | some .bool | some .string => P.cellsOf t == 1
  | some (.slice e) => S.contains e && Nat.blt 0 (P.cellsOf e) && P.cellsOf t == 1
  | some (.struct fs) => (fs.toList.all fun f => S.contains f.type) && rowB P 0 fs.toList && P.cellsOf t == (fs.toList.map fun f => P.cellsOf f.type).sum
  | _ => false

theorem list_of {α : Type} {p : Nat → α → Prop} : ∀ (n : Nat), (∀ i, i < n → ∃ x, p i x) → ∃ l : List α, l.length = n ∧ ∀ i x, l[i]? = some x → p i x
  | 0, _ => ⟨[], rfl, fun i x h => by simp at h⟩
  | n + 1, h => by
    obtain ⟨l, h1, h2⟩ := list_of n fun i hi => h i (by omega)
    obtain ⟨x, hx⟩ := h n (by omega)
    refine ⟨l ++ [x], by simp [h1], fun i y hy => ?_⟩
    by_cases hi : i < n
    · rw [List.getElem?_append_left (by omega)] at hy; exact h2 i y hy
    · rw [List.getElem?_append_right (by omega)] at hy
      have : i - l.length = 0 := by have := getElem?_lt hy; simp at this; omega
      rw [this] at hy
      simp at hy
      subst hy
      rw [show i = n by omega]
      exact hx

section
variable {H : Type} {enc : TypeId × Value → H} {P : Program} {W : World} {sp : Nat → Bool} {held : Bool}
theorem cell_spot {a : Addr} {v : Value} (h : W.cell? a = some v) : a.spot = none := by
  unfold World.cell? at h
  cases hs : a.spot with
  | none => rfl
  | some s =>
    exfalso
    split at h <;> simp [hs] at h
theorem flat_len {α : Type} (f : α → List AV) : ∀ l : List α, (l.flatMap f).length = (l.map fun a => (f a).length).sum
  | [] => rfl
  | a :: l => by simp [flat_len f l]

theorem open_cells {S : List Nat} (hS : closedB P S = true) : ∀ (fuel t : Nat) (cs : List Value) (x : DataW H × List MemPlace), t ∈ S → DataW.trod enc P W 0 sp held fuel t cs = some x →
    ∃ as : List AV, VRs (G0 W) W cs as ∧ Shp P t as ∧ as.length = P.cellsOf t ∧ (match P.underlying t with | some (.struct _) => True | _ => ∃ y, as = [y] ∧ y.cells = [y])
  | 0, t, cs, x, _, h => by simp [DataW.trod] at h
  | fuel + 1, t, cs, x, ht, h => by
    have hc := List.all_eq_true.1 hS t ht
    cases hu : P.underlying t with
    | none => rw [hu] at hc; simp at hc
    | some d =>
      rw [hu] at hc
      cases d
      case int k =>
        obtain ⟨n, rfl, _, hw⟩ := DataW.trod_int hu h
        exact ⟨[.int k n], .cons (.int k n) (.nil _ _), .int t k n hu hw, by simp at hc; simp [hc], _, rfl, rfl⟩
      case bool =>
        obtain ⟨b, rfl, _⟩ := DataW.trod_bool hu h
        exact ⟨[.bool b], .cons (.bool b) (.nil _ _), .bool t b hu, by simp at hc; simp [hc], _, rfl, rfl⟩
      case string =>
        obtain ⟨s, rfl, _, hs⟩ := DataW.trod_string hu h
        exact ⟨[.str (bytesOf s)], .cons (.str s) (.nil _ _), .str t s hu hs, by simp at hc; simp [hc], _, rfl, rfl⟩
      case slice e =>
        simp only [Bool.and_eq_true, beq_iff_eq] at hc
        obtain ⟨⟨hc1, hc2⟩, hc3⟩ := hc
        have heS : e ∈ S := by simpa using hc1
        have hpos := blt_nat.1 hc2
        rcases DataW.trod_slice hu h with ⟨rfl, _⟩ | ⟨a, len, cap, elems, rest, n, hn, rfl, _, _, hlc, hcm, hlen, hel, _⟩
        · exact ⟨[.sl .no []], .cons (.sl0 none 0 .no (fun _ => rfl) trivial) (.nil _ _), .sl t e [] hu (Nat.zero_le _) (fun x hx => by simp at hx) (fun x hx => by simp at hx), by simp [hc3], _, rfl, rfl⟩
        · obtain rfl : n = fuel := by omega
          have hE : ∀ i, i < len → ∃ x : AV, (∃ cs', W.cells? 0 (a.add (i * P.cellsOf e)) (P.cellsOf e) = some cs' ∧ VRs (G0 W) W cs' x.cells) ∧ Shp P e x.cells ∧ x.cells.length = P.cellsOf e ∧ (match P.underlying e with | some (.struct _) => ∃ cs, x = .agg cs | _ => x.cells = [x]) := by
            intro i hi
            have := hel i hi
            rw [List.getElem?_eq_getElem (by omega)] at this
            obtain ⟨cs', h1, h2⟩ := Option.bind_eq_some_iff.1 this
            obtain ⟨as, k1, k2, k3, k4⟩ := open_cells hS n e cs' _ heS h2
            cases hue : P.underlying e with
            | none => rw [hue] at k4; obtain ⟨y, rfl, hy⟩ := k4; exact ⟨y, ⟨cs', h1, by rw [hy]; exact k1⟩, by rw [hy]; exact k2, by rw [hy]; exact k3, hy⟩
            | some d =>
              cases d with
              | struct fs => exact ⟨.agg as, ⟨cs', h1, k1⟩, k2, k3, as, rfl⟩
              | _ => rw [hue] at k4; obtain ⟨y, rfl, hy⟩ := k4; exact ⟨y, ⟨cs', h1, by rw [hy]; exact k1⟩, by rw [hy]; exact k2, by rw [hy]; exact k3, hy⟩
          obtain ⟨els, hl1, hl2⟩ := list_of len hE
          have hmem : ∀ x ∈ els, ∃ i, els[i]? = some x := fun x hx => List.getElem?_of_mem hx
          refine ⟨[.sl .no els], .cons ?_ (.nil _ _), .sl t e els hu (by omega) (fun x hx => ?_) (fun x hx => ?_), by simp [hc3], _, rfl, rfl⟩
          · by_cases h0 : len = 0
            · subst h0
              obtain rfl := List.eq_nil_of_length_eq_zero hl1
              exact .sl0 (some a) cap .no (fun h => by simp at h) trivial
            · -- a place of its own
              obtain ⟨⟨cs0, h1, _⟩, _⟩ := hl2 0 els[0] (List.getElem?_eq_getElem (by omega))
              obtain ⟨_, c2, c3⟩ := World.cells?_some h1
              have hs0 : a.spot = none := by
                have := c3 0 hpos
                rw [List.getElem?_eq_getElem (by omega)] at this
                simp [Addr.add] at this
                exact cell_spot this
              obtain ⟨ab, ao, asp⟩ := a
              simp only at hs0
              subst hs0
              have hcell : ∀ i j y, els[i]? = some y → j < P.cellsOf e → ∃ v, W.cell? ⟨ab, ao + i * P.cellsOf e + j, none⟩ = some v ∧ ∀ z, y.cells[j]? = some z → VR (G0 W) W v z := by
                intro i j y hy hj
                obtain ⟨⟨cs', h1, h2⟩, _⟩ := hl2 i y hy
                obtain ⟨_, c2, c3⟩ := World.cells?_some h1
                have := c3 j hj
                rw [List.getElem?_eq_getElem (by omega)] at this
                rw [addr_add, addr_add] at this
                exact ⟨_, this, fun z hz => h2.2 j _ z (List.getElem?_eq_getElem (by omega)) hz⟩
              refine .sl ab ao len cap (P.cellsOf e) .no els (fun i j => (W.cell? ⟨ab, ao + i * P.cellsOf e + j, none⟩).getD undef) hl1 hlc (fun x hx => ?_) (fun i j hi hj => ?_) (fun i j x y hx hy => ?_) trivial
              · obtain ⟨i, hi⟩ := hmem x hx
                exact (hl2 i x hi).2.2.1
              · obtain ⟨v, hv, _⟩ := hcell i j _ (List.getElem?_eq_getElem (by omega)) hj
                exact ⟨by rw [hv]; rfl, .inl rfl⟩
              · have hj : j < P.cellsOf e := by
                  have := getElem?_lt hy
                  have := (hl2 i x hx).2.2.1
                  omega
                obtain ⟨v, hv, hz⟩ := hcell i j x hx hj
                rw [hv]
                exact hz y hy
          · obtain ⟨i, hi⟩ := hmem x hx
            exact (hl2 i x hi).2.1
          · obtain ⟨i, hi⟩ := hmem x hx
            exact (hl2 i x hi).2.2.2
      case struct fs =>
        simp only [Bool.and_eq_true, beq_iff_eq] at hc
        obtain ⟨⟨hc1, hc2⟩, hc3⟩ := hc
        obtain ⟨xs, n, hn, _, hlen, hxl, hf⟩ := DataW.trod_struct hu h
        obtain rfl : n = fuel := by omega
        have hfS : ∀ f ∈ fs.toList, f.type ∈ S := fun f hm => by
          have := List.all_eq_true.1 hc1 f hm
          simpa using this
        -- the fields, one behind the other
        have go : ∀ (l : List Field) (o : Nat) (cs : List Value), rowB P o l = true → (∀ f ∈ l, f.type ∈ S) → (∀ f ∈ l, ∃ y, DataW.trod enc P W 0 sp held n f.type ((cs.drop f.offset).take (P.cellsOf f.type)) = some y) →
            o + (l.map fun f => P.cellsOf f.type).sum = cs.length →
            ∃ ps : List (Nat × List AV), ps.map (·.1) = l.map (·.type) ∧ (∀ p ∈ ps, Shp P p.1 p.2) ∧ VRs (G0 W) W (cs.drop o) (ps.flatMap (·.2)) ∧ (ps.flatMap (·.2)).length = (l.map fun f => P.cellsOf f.type).sum := by
          intro l
          induction l with
          | nil =>
            intro o cs _ _ _ hl
            simp at hl
            refine ⟨[], rfl, fun p hp => by simp at hp, ?_, rfl⟩
            rw [List.drop_eq_nil_of_le (by omega)]
            exact .nil _ _
          | cons f l ih =>
            intro o cs hr hS2 hy hl
            simp only [rowB, Bool.and_eq_true, beq_iff_eq] at hr
            obtain ⟨hr1, hr2⟩ := hr
            simp only [List.map_cons, List.sum_cons] at hl
            obtain ⟨y, hy1⟩ := hy f (List.mem_cons_self ..)
            obtain ⟨as, k1, k2, k3, _⟩ := open_cells hS n f.type _ y (hS2 f (List.mem_cons_self ..)) hy1
            obtain ⟨ps, q1, q2, q3, q4⟩ := ih (o + P.cellsOf f.type) cs hr2 (fun g hg => hS2 g (List.mem_cons_of_mem _ hg)) (fun g hg => hy g (List.mem_cons_of_mem _ hg)) (by omega)
            refine ⟨(f.type, as) :: ps, by simp [q1], fun p hp => ?_, ?_, by simp only [List.flatMap_cons, List.length_append, List.map_cons, List.sum_cons, k3, q4]⟩
            · rcases List.mem_cons.1 hp with rfl | hp
              · exact k2
              · exact q2 p hp
            · rw [hr1] at k1
              have : cs.drop o = (cs.drop o).take (P.cellsOf f.type) ++ cs.drop (o + P.cellsOf f.type) := by
                rw [← List.drop_drop, List.take_append_drop]
              rw [this, List.flatMap_cons]
              exact k1.append q3
        obtain ⟨ps, q1, q2, q3, q4⟩ := go fs.toList 0 cs hc2 hfS (fun f hm => by
          obtain ⟨i, hi⟩ := List.getElem?_of_mem hm
          have hi' : fs[i]? = some f := by simpa using hi
          have := hf i f hi'
          have hil : i < xs.length := by rw [hxl]; have := getElem?_lt hi; simpa using this
          rw [List.getElem?_eq_getElem hil] at this
          exact ⟨_, this⟩) (by rw [hlen, hc3]; omega)
        exact ⟨ps.flatMap (·.2), by simpa using q3, .st t fs ps hu q1 q2, by rw [q4, hc3], trivial⟩
      all_goals exact absurd hc (by simp)

theorem trodAll_open {S : List Nat} (hS : closedB P S = true) {t : Nat} (ht : t ∈ S) {v : Value} {d : DataW H} {ps : List MemPlace} (h : DataW.Trod enc P W 0 sp held t v d ps) :
    ∃ as : List AV, VRs (G0 W) W v.cells.toList as ∧ Shp P t as := by
  obtain ⟨fuel, hf⟩ := h
  obtain ⟨as, h1, h2, _⟩ := open_cells hS fuel t _ _ ht hf
  exact ⟨as, h1, h2⟩
end
end Go.Ev
/- Functions of plain values as primitives; types as trees. -/
namespace Go.Ev
variable [MT]

/-- What a value is to the machine, owners aside. -/
class Enc (α : Type) where
  enc : α → AV
  inj : ∀ {x : AV} {a b : α}, x.wk 0 (enc a) → x.wk 0 (enc b) → a = b
  bare : ∀ (n : Nat) (a : α), (enc a).wk n (enc a)
open Enc (enc)
/-- Encodings lie so far above nothing that any bound will do. -/
instance : Enc Int where
  enc n := .int .i64 n
  inj := by
    intro x a b h1 h2
    cases x with
    | ptr p => cases p <;> simp [AV.wk] at h1
    | map p => cases p <;> simp [AV.wk] at h1
    | int k m => simp [AV.wk] at h1 h2; rw [h1.2, h2.2]
    | _ => simp [AV.wk] at h1
  bare := fun n a => by simp [AV.wk]
instance : Enc Bool where
  enc b := .bool b
  inj := by
    intro x a b h1 h2
    cases x with
    | ptr p => cases p <;> simp [AV.wk] at h1
    | map p => cases p <;> simp [AV.wk] at h1
    | bool c => simp [AV.wk] at h1 h2; rw [h1, h2]
    | _ => simp [AV.wk] at h1
  bare := fun n a => by simp [AV.wk]
/-- A text. -/
structure Str where
  s : List Nat
instance : Enc Str where
  enc t := .str t.s
  inj := by
    intro x a b h1 h2
    cases x with
    | ptr p => cases p <;> simp [AV.wk] at h1
    | map p => cases p <;> simp [AV.wk] at h1
    | str s =>
      simp [AV.wk] at h1 h2
      obtain ⟨a⟩ := a
      obtain ⟨b⟩ := b
      simp at h1 h2
      rw [h1, h2]
    | _ => simp [AV.wk] at h1
  bare := fun n a => by simp [AV.wk]
theorem wks_map_inj {α : Type} [Enc α] : ∀ {els : List AV} {a b : List α}, AV.wks 0 els (a.map enc) → AV.wks 0 els (b.map enc) → a = b
  | [], a, b, h1, h2 => by
    simp only [AV.wks, List.map_eq_nil_iff] at h1 h2
    rw [h1, h2]
  | x :: els, a, b, h1, h2 => by
    simp only [AV.wks] at h1 h2
    obtain ⟨y, k, e1, g1, g2⟩ := h1
    obtain ⟨z, m, e2, g3, g4⟩ := h2
    cases a with
    | nil => simp at e1
    | cons a0 a =>
      cases b with
      | nil => simp at e2
      | cons b0 b =>
        simp only [List.map_cons, List.cons.injEq] at e1 e2
        obtain ⟨rfl, rfl⟩ := e1
        obtain ⟨rfl, rfl⟩ := e2
        rw [Enc.inj g1 g3, wks_map_inj g2 g4]
theorem wks_map_refl {α : Type} [Enc α] (n : Nat) : ∀ (l : List α), AV.wks n (l.map enc) (l.map enc)
  | [] => by simp [AV.wks]
  | a :: l => ⟨_, _, rfl, Enc.bare n a, wks_map_refl n l⟩
instance {α : Type} [Enc α] : Enc (List α) where
  enc l := .sl .no (l.map enc)
  inj := by
    intro x a b h1 h2
    cases x with
    | ptr p => cases p <;> simp [AV.wk] at h1
    | map p => cases p <;> simp [AV.wk] at h1
    | sl o els =>
      simp only [AV.wk] at h1 h2
      obtain ⟨p, ds, e1, _, g1⟩ := h1
      obtain ⟨q, es, e2, _, g2⟩ := h2
      simp only [AV.sl.injEq] at e1 e2
      rw [← e1.2] at g1
      rw [← e2.2] at g2
      exact wks_map_inj g1 g2
    | _ => simp [AV.wk] at h1
  bare := fun n l => by
    simp only [AV.wk]
    exact ⟨.no, _, rfl, .inl rfl, wks_map_refl n l⟩

/-! ### Primitives of relations -/
noncomputable def ofRel (R : List AV → AV → Prop) : List AV → Option AV := fun args => by
  classical exact if h : ∃ v, R args v then some h.choose else none
theorem ofRel_some {R : List AV → AV → Prop} {args : List AV} {v : AV} (h : ofRel R args = some v) : R args v := by
  unfold ofRel at h
  split at h
  · rename_i he
    rw [← Option.some.inj h]
    exact he.choose_spec
  · simp at h
theorem ofRel_of {R : List AV → AV → Prop} {args : List AV} {v : AV} (h : R args v) (hu : ∀ u, R args u → u = v) : ofRel R args = some v := by
  unfold ofRel
  have he : ∃ v, R args v := ⟨v, h⟩
  rw [dif_pos he, hu _ he.choose_spec]
section
variable {α β γ δ : Type} [Enc α] [Enc β] [Enc γ] [Enc δ]
def Rel1 (q : α → Prop) (F : α → δ) (args : List AV) (v : AV) : Prop := ∃ a, AV.wks 0 args [enc a] ∧ q a ∧ v = enc (F a)
def Rel2 (q : α → β → Prop) (F : α → β → δ) (args : List AV) (v : AV) : Prop := ∃ a b, AV.wks 0 args [enc a, enc b] ∧ q a b ∧ v = enc (F a b)
def Rel3 (q : α → β → γ → Prop) (F : α → β → γ → δ) (args : List AV) (v : AV) : Prop := ∃ a b c, AV.wks 0 args [enc a, enc b, enc c] ∧ q a b c ∧ v = enc (F a b c)
theorem wks1 {n : Nat} {x y : AV} : AV.wks n [x] [y] ↔ x.wk n y := by
  simp only [AV.wks]
  constructor
  · rintro ⟨b, k, e, h, rfl⟩
    simp only [List.cons.injEq] at e
    rw [e.1]; exact h
  · intro h; exact ⟨y, [], rfl, h, rfl⟩
theorem wks_cons {n : Nat} {x y : AV} {l m : List AV} : AV.wks n (x :: l) (y :: m) ↔ x.wk n y ∧ AV.wks n l m := by
  simp only [AV.wks]
  constructor
  · rintro ⟨b, k, e, h1, h2⟩
    simp only [List.cons.injEq] at e
    rw [e.1, e.2]; exact ⟨h1, h2⟩
  · rintro ⟨h1, h2⟩; exact ⟨y, m, rfl, h1, h2⟩
theorem wks_nil {n : Nat} : AV.wks n [] [] := by simp [AV.wks]
theorem wk_agg {n : Nat} {a b : List AV} : (AV.agg a).wk n (.agg b) ↔ AV.wks n a b := by simp [AV.wk]
theorem wk_tup {n : Nat} {a b : List AV} : (AV.tup a).wk n (.tup b) ↔ AV.wks n a b := by simp [AV.wk]
theorem wk_sl {n : Nat} {o p : Own} {a b : List AV} : (AV.sl o a).wk n (.sl p b) ↔ o.wk n p ∧ AV.wks n a b := by
  simp only [AV.wk, AV.sl.injEq]
  constructor
  · rintro ⟨q, ds, ⟨rfl, rfl⟩, h⟩; exact h
  · intro h; exact ⟨p, b, ⟨rfl, rfl⟩, h⟩
theorem wk_int {n : Nat} {k : IntKind} {m : Int} : (AV.int k m).wk n (.int k m) := by simp [AV.wk]
theorem wk_str {n : Nat} {s : List Nat} : (AV.str s).wk n (.str s) := by simp [AV.wk]
theorem wk_bool {n : Nat} {b : Bool} : (AV.bool b).wk n (.bool b) := by simp [AV.wk]
theorem own_no {n : Nat} {o : Own} : o.wk n .no := .inl rfl
theorem rel1_of {q : α → Prop} {F : α → δ} {x : AV} {a : α} (hx : x.wk 0 (enc a)) (hq : q a) : ofRel (Rel1 q F) [x] = some (enc (F a)) :=
  ofRel_of ⟨a, wks1.2 hx, hq, rfl⟩ fun u ⟨b, h1, _, h2⟩ => by rw [h2, Enc.inj (wks1.1 h1) hx]
theorem rel2_of {q : α → β → Prop} {F : α → β → δ} {x y : AV} {a : α} {b : β} (hx : x.wk 0 (enc a)) (hy : y.wk 0 (enc b)) (hq : q a b) : ofRel (Rel2 q F) [x, y] = some (enc (F a b)) :=
  ofRel_of ⟨a, b, wks_cons.2 ⟨hx, wks1.2 hy⟩, hq, rfl⟩ fun u ⟨a', b', h1, _, h2⟩ => by
    obtain ⟨g1, g2⟩ := wks_cons.1 h1
    rw [h2, Enc.inj g1 hx, Enc.inj (wks1.1 g2) hy]
theorem rel3_of {q : α → β → γ → Prop} {F : α → β → γ → δ} {x y z : AV} {a : α} {b : β} {c : γ} (hx : x.wk 0 (enc a)) (hy : y.wk 0 (enc b)) (hz : z.wk 0 (enc c)) (hq : q a b c) : ofRel (Rel3 q F) [x, y, z] = some (enc (F a b c)) :=
  ofRel_of ⟨a, b, c, wks_cons.2 ⟨hx, wks_cons.2 ⟨hy, wks1.2 hz⟩⟩, hq, rfl⟩ fun u ⟨a', b', c', h1, _, h2⟩ => by
    obtain ⟨g1, g2⟩ := wks_cons.1 h1
    obtain ⟨g3, g4⟩ := wks_cons.1 g2
    rw [h2, Enc.inj g1 hx, Enc.inj g3 hy, Enc.inj (wks1.1 g4) hz]
variable [Inhabited KA0] {P : Program} {E : Env}
theorem prim1_ok (hE : EnvOk P E) {f : Nat} {fn : Func} {c : Code} (hf : E.fns f = some fn) (hb : fn.body = some c) (hn : Nat.ble 1 fn.ntmps = true) {q : α → Prop} {F : α → δ}
    (h : ∀ a, q a → ∃ v' h1, bodyL E f fn c [enc a] ⟨.e, 0⟩ = some (v', h1) ∧ v'.wk 0 (enc (F a))) : PrimOk P f (primVal (ofRel (Rel1 q F))) :=
  primVal_ok hE hf hb fun args v hv => by
    obtain ⟨a, h1, h2, rfl⟩ := ofRel_some hv
    refine ⟨by rw [(wks_iff.1 h1).1]; exact hn, _, h1, h a h2⟩
theorem prim2_ok (hE : EnvOk P E) {f : Nat} {fn : Func} {c : Code} (hf : E.fns f = some fn) (hb : fn.body = some c) (hn : Nat.ble 2 fn.ntmps = true) {q : α → β → Prop} {F : α → β → δ}
    (h : ∀ a b, q a b → ∃ v' h1, bodyL E f fn c [enc a, enc b] ⟨.e, 0⟩ = some (v', h1) ∧ v'.wk 0 (enc (F a b))) : PrimOk P f (primVal (ofRel (Rel2 q F))) :=
  primVal_ok hE hf hb fun args v hv => by
    obtain ⟨a, b, h1, h2, rfl⟩ := ofRel_some hv
    refine ⟨by rw [(wks_iff.1 h1).1]; exact hn, _, h1, h a b h2⟩
theorem prim3_ok (hE : EnvOk P E) {f : Nat} {fn : Func} {c : Code} (hf : E.fns f = some fn) (hb : fn.body = some c) (hn : Nat.ble 3 fn.ntmps = true) {q : α → β → γ → Prop} {F : α → β → γ → δ}
    (h : ∀ a b e, q a b e → ∃ v' h1, bodyL E f fn c [enc a, enc b, enc e] ⟨.e, 0⟩ = some (v', h1) ∧ v'.wk 0 (enc (F a b e))) : PrimOk P f (primVal (ofRel (Rel3 q F))) :=
  primVal_ok hE hf hb fun args v hv => by
    obtain ⟨a, b, e, h1, h2, rfl⟩ := ofRel_some hv
    refine ⟨by rw [(wks_iff.1 h1).1]; exact hn, _, h1, h a b e h2⟩
omit [Inhabited KA0] in
theorem prim1_call {f : Nat} {q : α → Prop} {F : α → δ} (hp : E.prim f = some (primVal (ofRel (Rel1 q F)))) {x : AV} {a : α} (hx : x.wk 0 (enc a)) (hq : q a) (h : H) : evL E f [x] h = some (enc (F a), h) := by
  rw [evL_prim E hp, primVal, rel1_of hx hq]
omit [Inhabited KA0] in
theorem prim2_call {f : Nat} {q : α → β → Prop} {F : α → β → δ} (hp : E.prim f = some (primVal (ofRel (Rel2 q F)))) {x y : AV} {a : α} {b : β} (hx : x.wk 0 (enc a)) (hy : y.wk 0 (enc b)) (hq : q a b) (h : H) : evL E f [x, y] h = some (enc (F a b), h) := by
  rw [evL_prim E hp, primVal, rel2_of hx hy hq]
omit [Inhabited KA0] in
theorem prim3_call {f : Nat} {q : α → β → γ → Prop} {F : α → β → γ → δ} (hp : E.prim f = some (primVal (ofRel (Rel3 q F)))) {x y z : AV} {a : α} {b : β} {c : γ} (hx : x.wk 0 (enc a)) (hy : y.wk 0 (enc b)) (hz : z.wk 0 (enc c)) (hq : q a b c) (h : H) : evL E f [x, y, z] h = some (enc (F a b c), h) := by
  rw [evL_prim E hp, primVal, rel3_of hx hy hz hq]
end

/-! ### Primitives of relations with the heap -/
noncomputable def ofRelH (R : List AV → H → AV → H → Prop) : List AV → H → Option (AV × H) := fun args h => by
  classical exact if he : ∃ r : AV × H, R args h r.1 r.2 then some he.choose else none
theorem ofRelH_some {R : List AV → H → AV → H → Prop} {args : List AV} {h h' : H} {v : AV} (he : ofRelH R args h = some (v, h')) : R args h v h' := by
  unfold ofRelH at he
  split at he
  · rename_i hx
    have := hx.choose_spec
    rw [Option.some.inj he] at this
    exact this
  · simp at he
theorem ofRelH_of {R : List AV → H → AV → H → Prop} {args : List AV} {h h' : H} {v : AV} (hr : R args h v h') (hu : ∀ u k, R args h u k → u = v ∧ k = h') : ofRelH R args h = some (v, h') := by
  unfold ofRelH
  have he : ∃ r : AV × H, R args h r.1 r.2 := ⟨(v, h'), hr⟩
  rw [dif_pos he]
  have := hu _ _ he.choose_spec
  exact congrArg some (Prod.ext this.1 this.2)
mutual
theorem wk_mono {n m : Nat} (hn : n ≤ m) : ∀ {x y : AV}, x.wk n y → x.wk m y
  | .ptr none, y, h => by simp only [AV.wk] at h ⊢; exact h
  | .ptr (some (id, o)), y, h => by simp only [AV.wk] at h ⊢; exact ⟨by omega, h.2⟩
  | .map none, y, h => by simp only [AV.wk] at h ⊢; exact h
  | .map (some id), y, h => by simp only [AV.wk] at h ⊢; exact ⟨by omega, h.2⟩
  | .vp cs, y, h => by simp only [AV.wk] at h ⊢; obtain ⟨ds, e, h⟩ := h; exact ⟨ds, e, wks_mono hn h⟩
  | .sl o els, y, h => by
    simp only [AV.wk] at h ⊢
    obtain ⟨p, ds, e, hw, h⟩ := h
    exact ⟨p, ds, e, hw.imp id fun q => ⟨q.1, fun i hi => by have := q.2 i hi; omega⟩, wks_mono hn h⟩
  | .fn f a b, y, h => by simp only [AV.wk] at h ⊢; obtain ⟨c, d, e, h1, h2⟩ := h; exact ⟨c, d, e, wks_mono hn h1, wks_mono hn h2⟩
  | .iface t v, y, h => by simp only [AV.wk] at h ⊢; obtain ⟨u, e, h⟩ := h; exact ⟨u, e, wk_mono hn h⟩
  | .agg cs, y, h => by simp only [AV.wk] at h ⊢; obtain ⟨ds, e, h⟩ := h; exact ⟨ds, e, wks_mono hn h⟩
  | .tup cs, y, h => by simp only [AV.wk] at h ⊢; obtain ⟨ds, e, h⟩ := h; exact ⟨ds, e, wks_mono hn h⟩
  | .bool _, y, h => by simp only [AV.wk] at h ⊢; exact h
  | .int _ _, y, h => by simp only [AV.wk] at h ⊢; exact h
  | .str _, y, h => by simp only [AV.wk] at h ⊢; exact h
  | .nilFn, y, h => by simp only [AV.wk] at h ⊢; exact h
  | .nilIface, y, h => by simp only [AV.wk] at h ⊢; exact h
  | .rs id a b, y, h => by simp only [AV.wk] at h ⊢; exact ⟨by omega, h.2⟩
  | .rp id a b, y, h => by simp only [AV.wk] at h ⊢; exact ⟨by omega, h.2⟩
theorem wks_mono {n m : Nat} (hn : n ≤ m) : ∀ {x y : List AV}, AV.wks n x y → AV.wks m x y
  | [], y, h => by simp only [AV.wks] at h ⊢; exact h
  | a :: l, y, h => by simp only [AV.wks] at h ⊢; obtain ⟨b, k, e, h1, h2⟩ := h; exact ⟨b, k, e, wk_mono hn h1, wks_mono hn h2⟩
end
theorem nq2 (a : Nat) : (a = a + 1 + 1) ↔ False := ⟨fun h => by omega, False.elim⟩
theorem nq3 (a : Nat) : (a = a + 1 + 1 + 1) ↔ False := ⟨fun h => by omega, False.elim⟩
theorem nq4 (a : Nat) : (a = a + 1 + 1 + 1 + 1) ↔ False := ⟨fun h => by omega, False.elim⟩
theorem nq5 (a : Nat) : (a = a + 1 + 1 + 1 + 1 + 1) ↔ False := ⟨fun h => by omega, False.elim⟩
theorem nr2 (a : Nat) : (a + 1 + 1 = a) ↔ False := ⟨fun h => by omega, False.elim⟩
theorem nr3 (a : Nat) : (a + 1 + 1 + 1 = a) ↔ False := ⟨fun h => by omega, False.elim⟩
theorem nr4 (a : Nat) : (a + 1 + 1 + 1 + 1 = a) ↔ False := ⟨fun h => by omega, False.elim⟩
theorem nr5 (a : Nat) : (a + 1 + 1 + 1 + 1 + 1 = a) ↔ False := ⟨fun h => by omega, False.elim⟩
theorem wk_ptr {n i o : Nat} (h : i < n) : (AV.ptr (some (i, o))).wk n (.ptr (some (i, o))) := by simp [AV.wk, h]

/-! ### Types -/
inductive Ty where
  | mk (op : List Nat) (n : Int) (kids : List Ty)
namespace Ty
def op : Ty → List Nat | .mk o _ _ => o
def n : Ty → Int | .mk _ n _ => n
def kids : Ty → List Ty | .mk _ _ k => k
mutual
def av : Ty → AV
  | .mk op n ks => .agg [.str op, .int .i64 n, .sl .no (avs ks)]
def avs : List Ty → List AV
  | [] => []
  | t :: l => av t :: avs l
end
theorem avs_map : ∀ l : List Ty, avs l = l.map av
  | [] => rfl
  | t :: l => by rw [avs, avs_map l]; rfl
mutual
theorem av_inj : ∀ {a b : Ty} {x : AV}, x.wk 0 a.av → x.wk 0 b.av → a = b
  | .mk o1 n1 k1, .mk o2 n2 k2, x, h1, h2 => by
    simp only [av] at h1 h2
    cases x with
    | ptr p => cases p <;> simp [AV.wk] at h1
    | map p => cases p <;> simp [AV.wk] at h1
    | agg cs =>
      simp only [AV.wk, AV.agg.injEq] at h1 h2
      obtain ⟨ds, rfl, h1⟩ := h1
      obtain ⟨es, rfl, h2⟩ := h2
      match cs, h1, h2 with
      | [c0, c1, c2], h1, h2 =>
        simp only [wks_cons] at h1 h2
        obtain ⟨a1, a2, a3, _⟩ := h1
        obtain ⟨b1, b2, b3, _⟩ := h2
        have e1 : o1 = o2 := congrArg Str.s (Enc.inj (α := Str) (a := ⟨o1⟩) (b := ⟨o2⟩) a1 b1)
        have e2 : n1 = n2 := Enc.inj (α := Int) a2 b2
        cases c2 with
        | ptr p => cases p <;> simp [AV.wk] at a3
        | map p => cases p <;> simp [AV.wk] at a3
        | sl o els =>
          simp only [AV.wk, AV.sl.injEq] at a3 b3
          obtain ⟨p, ds, ⟨_, rfl⟩, _, a3⟩ := a3
          obtain ⟨q, es, ⟨_, rfl⟩, _, b3⟩ := b3
          rw [e1, e2, avs_inj a3 b3]
        | _ => simp [AV.wk] at a3
      | [], h1, _ => exact absurd (wks_iff.1 h1).1 (by simp)
      | [_], h1, _ => exact absurd (wks_iff.1 h1).1 (by simp)
      | [_, _], h1, _ => exact absurd (wks_iff.1 h1).1 (by simp)
      | _ :: _ :: _ :: _ :: _, h1, _ => exact absurd (wks_iff.1 h1).1 (by simp)
    | _ => simp [AV.wk] at h1
theorem avs_inj : ∀ {a b : List Ty} {x : List AV}, AV.wks 0 x (avs a) → AV.wks 0 x (avs b) → a = b
  | [], [], _, _, _ => rfl
  | [], _ :: _, x, h1, h2 => by
    have e1 := (wks_iff.1 h1).1
    have e2 := (wks_iff.1 h2).1
    simp [avs] at e1 e2
    rw [e1] at e2; simp at e2
  | _ :: _, [], x, h1, h2 => by
    have e1 := (wks_iff.1 h1).1
    have e2 := (wks_iff.1 h2).1
    simp [avs] at e1 e2
    rw [e2] at e1; simp at e1
  | a :: l, b :: m, x, h1, h2 => by
    cases x with
    | nil => simp [AV.wks, avs] at h1
    | cons y x =>
      simp only [avs, wks_cons] at h1 h2
      rw [av_inj h1.1 h2.1, avs_inj h1.2 h2.2]
end
mutual
theorem av_bare (n : Nat) : ∀ t : Ty, t.av.wk n t.av
  | .mk o m ks => by
    simp only [av, AV.wk]
    exact ⟨_, rfl, wks_cons.2 ⟨by simp [AV.wk], wks_cons.2 ⟨by simp [AV.wk], wks_cons.2 ⟨by
      simp only [AV.wk]
      exact ⟨.no, _, rfl, .inl rfl, avs_bare n ks⟩, by simp [AV.wks]⟩⟩⟩⟩
theorem avs_bare (n : Nat) : ∀ l : List Ty, AV.wks n (avs l) (avs l)
  | [] => by simp [AV.wks, avs]
  | t :: l => ⟨_, _, rfl, av_bare n t, avs_bare n l⟩
end
instance : Enc Ty := ⟨av, av_inj, av_bare⟩
end Ty
end Go.Ev
/- A primitive of values alone out of a proof about calls. -/
namespace Go.Ev
variable [MT]
section
variable [Inhabited KA0] {P : Program}
/-- Old blocks as they were. -/
structure Old (w w' : World) : Prop where
  os : w'.os = w.os
  tape : w'.tape = w.tape
  output : w'.output = w.output
  size : w.heap.size ≤ w'.heap.size
  same : ∀ j, j < w.heap.size → w'.heap[j]? = w.heap[j]?
theorem primVal_direct {f : Nat} {fn : Func} (q1 : P.funcs[f]? = some fn) (q2 : (fn.name == "runtime.NumGoroutine") = false) (q3 : fn.body.isNone = false) {p : List AV → Option AV}
    (hp : ∀ args v, p args = some v → ∃ args', AV.wks 0 args args' ∧ ∀ (G : Gh) (w : World) (A : Array Value), Inv (Gp G) w ⟨.e, 0⟩ → VRs (Gp G) w A.toList args' →
      Calls P f A w fun e w' => ∃ V, e = .returned V ∧ Old w w' ∧ ∀ G' : Gh, (∀ b, w.heap.size ≤ b → G'.fr b = none) → VR G' w' V v) : PrimOk P f (primVal p) := by
  refine ⟨⟨fn, q1, q2, q3⟩, fun args h v hk he G w A I hA => ?_⟩
  unfold primVal at he
  cases hv : p args with
  | none => rw [hv] at he; simp at he
  | some v0 =>
    rw [hv] at he
    simp only [Option.some.injEq, Prod.mk.injEq] at he
    obtain ⟨rfl, rfl⟩ := he
    obtain ⟨args', hwa, hc⟩ := hp args v0 hv
    have hA' : VRs (Gp G) w A.toList args' := VRs.wk (n := 0) (G := G) (G' := Gp G) (fun b o v s => s) (fun id b hi => by omega) (fun id m v hi => by omega) hA hwa
    refine (hc G w A (invp I) hA').mono ?_
    rintro e w' ⟨V, rfl, O, hV⟩
    refine ⟨G, V, rfl, hV G fun b hb => ?_, grow_inv I O.os O.tape O.output O.size O.same, grow_ext G _ O.os O.tape O.output O.size O.same⟩
    cases hf : G.fr b with
    | none => rfl
    | some k => exact absurd (I.frb b k hf).2 (by omega)
end
end Go.Ev
