/- What the abstract machine's values and heap say of the model's: the relation, and that it lasts. -/
import Derived.Test.YtncccgglillmoaaGreatDoorEvA
set_option autoImplicit false
set_option linter.unusedSectionVars false
set_option linter.unusedVariables false
set_option linter.unusedSimpArgs false
namespace Go.Ev

/-! ### 1. Tries -/
namespace T
variable {α : Type}
theorem bif_even {β : Type} (k : Nat) (x y : β) : (bif Nat.beq (Nat.mod k 2) 0 then x else y) = if k % 2 = 0 then x else y := by
  show (bif Nat.beq (k % 2) 0 then x else y) = _
  by_cases h : k % 2 = 0
  · simp [h]
  · have : Nat.beq (k % 2) 0 = false := by
      cases hb : Nat.beq (k % 2) 0
      · rfl
      · exact absurd (Nat.eq_of_beq_eq_true hb) h
    simp [this, h]
theorem put_same (f : Nat) : ∀ (t : T α) (k : Nat) (v : α), k < f → (put f t k v).get k = some v := by
  induction f with
  | zero => intro t k v h; omega
  | succ f ih =>
    intro t k v h
    cases t with
    | e =>
      cases k with
      | zero => rfl
      | succ k =>
        simp only [put, bif_even]
        split
        · rename_i he; simp only [get, bif_even, he, if_true]; exact ih _ _ _ (Nat.lt_of_le_of_lt (Nat.div_le_self k 2) (by omega))
        · rename_i he; simp only [get, bif_even, he, if_false]; exact ih _ _ _ (Nat.lt_of_le_of_lt (Nat.div_le_self k 2) (by omega))
    | n o l r =>
      cases k with
      | zero => rfl
      | succ k =>
        simp only [put, bif_even]
        split
        · rename_i he; simp only [get, bif_even, he, if_true]; exact ih _ _ _ (Nat.lt_of_le_of_lt (Nat.div_le_self k 2) (by omega))
        · rename_i he; simp only [get, bif_even, he, if_false]; exact ih _ _ _ (Nat.lt_of_le_of_lt (Nat.div_le_self k 2) (by omega))
theorem get_e (k : Nat) : (T.e : T α).get k = none := by cases k <;> rfl
theorem put_ne (f : Nat) : ∀ (t : T α) (k j : Nat) (v : α), j ≠ k → (put f t k v).get j = t.get j := by
  induction f with
  | zero => intro t k j v h; rfl
  | succ f ih =>
    intro t k j v h
    cases t with
    | e =>
      rw [get_e]
      cases k with
      | zero =>
        cases j with
        | zero => exact absurd rfl h
        | succ j =>
          simp only [put, get, bif_even]
          split
          · exact get_e (Nat.div j 2)
          · exact get_e (Nat.div j 2)
      | succ k =>
        simp only [put, bif_even]
        cases j with
        | zero => split <;> rfl
        | succ j =>
          split
          · rename_i he
            simp only [get, bif_even]
            split
            · rename_i hj
              rw [ih _ _ _ _ (by show j / 2 ≠ k / 2; omega)]; exact get_e (Nat.div j 2)
            · exact get_e (Nat.div j 2)
          · rename_i he
            simp only [get, bif_even]
            split
            · exact get_e (Nat.div j 2)
            · rename_i hj
              rw [ih _ _ _ _ (by show j / 2 ≠ k / 2; omega)]; exact get_e (Nat.div j 2)
    | n o l r =>
      cases k with
      | zero =>
        cases j with
        | zero => exact absurd rfl h
        | succ j => rfl
      | succ k =>
        simp only [put, bif_even]
        cases j with
        | zero => split <;> rfl
        | succ j =>
          split
          · rename_i he
            simp only [get, bif_even]
            split
            · rename_i hj
              rw [ih _ _ _ _ (by show j / 2 ≠ k / 2; omega)]
            · rfl
          · rename_i he
            simp only [get, bif_even]
            split
            · rfl
            · rename_i hj
              rw [ih _ _ _ _ (by show j / 2 ≠ k / 2; omega)]
theorem get_set (t : T α) (k : Nat) (v : α) : (t.set k v).get k = some v := put_same _ _ _ _ (by omega)
theorem get_set_ne (t : T α) {k j : Nat} (v : α) (h : j ≠ k) : (t.set k v).get j = t.get j := put_ne _ _ _ _ _ h
end T

/-! ### 2. Booleans that stand for equalities -/
theorem beq_nat {a b : Nat} : Nat.beq a b = true ↔ a = b := ⟨Nat.eq_of_beq_eq_true, fun h => by subst h; exact Nat.beq_refl a⟩
theorem beq_no {a b : Nat} (h : ¬ a = b) : Nat.beq a b = false := by
  cases hb : Nat.beq a b with
  | false => rfl
  | true => exact absurd (beq_nat.1 hb) h
theorem blt_no {a b : Nat} (h : ¬ a < b) : Nat.blt a b = false := by
  cases hb : Nat.blt a b with
  | false => rfl
  | true => exact absurd (by simpa [Nat.blt, Nat.ble_eq, Nat.succ_le_iff] using hb) h
theorem blt_nat {a b : Nat} : Nat.blt a b = true ↔ a < b := by simp [Nat.blt, Nat.ble_eq]; omega
theorem ikBeq_eq {a b : IntKind} : ikBeq a b = true ↔ a = b := by cases a <;> cases b <;> simp [ikBeq]
theorem ikBeq_self (a : IntKind) : ikBeq a a = true := by cases a <;> rfl
theorem intBeq_eq (a b : Int) : intBeq a b = (a == b) := by
  cases a <;> cases b <;> simp only [intBeq]
  · rename_i m n
    by_cases h : m = n
    · subst h; simp
    · rw [beq_no h]; symm; rw [beq_eq_false_iff_ne]; intro e; injection e; omega
  · symm; rw [beq_eq_false_iff_ne]; simp
  · symm; rw [beq_eq_false_iff_ne]; simp
  · rename_i m n
    by_cases h : m = n
    · subst h; simp
    · rw [beq_no h]; symm; rw [beq_eq_false_iff_ne]; simp; omega
theorem natsBeq_eq : ∀ (a b : List Nat), natsBeq a b = (a == b)
  | [], [] => rfl
  | [], _ :: _ => rfl
  | _ :: _, [] => rfl
  | x :: a, y :: b => by
    simp only [natsBeq, natsBeq_eq a b, List.cons_beq_cons]
    congr 1
    by_cases h : x = y
    · subst h; simp
    · rw [beq_no h]; symm; simp [h]
theorem optNatBeq_eq {a b : Option Nat} : optNatBeq a b = true ↔ a = b := by cases a <;> cases b <;> simp [optNatBeq]
theorem optPairBeq_eq {a b : Option (Nat × Nat)} : optPairBeq a b = true ↔ a = b := by
  cases a with
  | none => cases b <;> simp [optPairBeq]
  | some p => cases b with
    | none => simp [optPairBeq]
    | some q => obtain ⟨x, y⟩ := p; obtain ⟨z, u⟩ := q; simp [optPairBeq]
theorem Own.beq_eq {a b : Own} : a.beq b = true ↔ a = b := by cases a <;> cases b <;> simp [Own.beq]

mutual
theorem AV.beq_eq : ∀ (a b : AV), AV.beq a b = true → a = b
  | .bool _, b => by cases b <;> simp [AV.beq]
  | .int _ _, b => by cases b <;> simp [AV.beq, ikBeq_eq, intBeq_eq]
  | .str _, b => by cases b <;> simp [AV.beq, natsBeq_eq]
  | .ptr _, b => by cases b <;> simp [AV.beq, optPairBeq_eq]
  | .vp l, b => by cases b <;> simp [AV.beq]; exact AV.beqs_eq l _
  | .sl o l, b => by cases b <;> simp [AV.beq, Own.beq_eq]; intro h1 h2; exact ⟨h1, AV.beqs_eq l _ h2⟩
  | .map _, b => by cases b <;> simp [AV.beq, optNatBeq_eq]
  | .fn _ l m, b => by cases b <;> simp [AV.beq]; intro h1 h2 h3; exact ⟨h1, AV.beqs_eq l _ h2, AV.beqs_eq m _ h3⟩
  | .nilFn, b => by cases b <;> simp [AV.beq]
  | .iface _ v, b => by cases b <;> simp [AV.beq]; intro h1 h2; exact ⟨h1, AV.beq_eq v _ h2⟩
  | .nilIface, b => by cases b <;> simp [AV.beq]
  | .agg l, b => by cases b <;> simp [AV.beq]; exact AV.beqs_eq l _
  | .tup l, b => by cases b <;> simp [AV.beq]; exact AV.beqs_eq l _
  | .rs _ _ _, b => by cases b <;> simp [AV.beq]
  | .rp _ _ _, b => by cases b <;> simp [AV.beq]
theorem AV.beqs_eq : ∀ (a b : List AV), AV.beqs a b = true → a = b
  | [], b => by cases b <;> simp [AV.beqs]
  | x :: a, b => by cases b <;> simp [AV.beqs]; intro h1 h2; exact ⟨AV.beq_eq x _ h1, AV.beqs_eq a _ h2⟩
end

/-! ### 3. The relation -/
/-- What is known of the two memories: where an object lies; of a chain its length and its last slice; from which cell on a block may be written; whose a block is; the first block of the call's own. -/
structure Gh where
  ρ : Nat → Option Nat
  cv : Nat → Option (Nat × Value)
  fr : Nat → Option Nat
  ow : Nat → Option Nat
  base : Nat

/-- A cell that is never written any more. -/
def Stb (G : Gh) (w : World) (b o : Nat) (v : Value) : Prop :=
  w.cell? ⟨b, o, none⟩ = some v ∧ (G.fr b = none ∨ ∃ k, G.fr b = some k ∧ o < k)

def OwnR (G : Gh) : Own → Value → Nat → Nat → Prop
  | .no, _, _, _ => True
  | .full, _, len, cap => cap = len
  | .ch id, v, len, _ => ∃ n v', G.cv id = some (n, v') ∧ len ≤ n ∧ (n = len → v' = v)

/-- Where a row lies, while it has that length. -/
def RowR (G : Gh) (id len b : Nat) (p : Nat → Prop) : Prop := ∃ n v', G.cv id = some (n, v') ∧ len ≤ n ∧ (n = len → ∃ cap, v' = .slice (some ⟨b, 0, none⟩) len cap ∧ p cap)

theorem RowR.imp {G : Gh} {id len b : Nat} {p q : Nat → Prop} (h : ∀ c, p c → q c) (r : RowR G id len b p) : RowR G id len b q := by
  obtain ⟨n, v', h1, h2, h3⟩ := r
  exact ⟨n, v', h1, h2, fun e => by obtain ⟨c, h4, h5⟩ := h3 e; exact ⟨c, h4, h c h5⟩⟩

inductive VR (G : Gh) (w : World) : Value → AV → Prop
  | bool (b : Bool) : VR G w (.bool b) (.bool b)
  | int (k : IntKind) (n : Int) : VR G w (.int k n) (.int k n)
  | str (s : ByteArray) : VR G w (.string s) (.str (bytesOf s))
  | ptr0 : VR G w (.pointer none) (.ptr none)
  | ptr (id b off : Nat) (h : G.ρ id = some b) : VR G w (.pointer (some ⟨b, off, none⟩)) (.ptr (some (id, off)))
  | vp (b off : Nat) (cs : List AV) (f : Nat → Value) (h1 : ∀ j, j < cs.length → Stb G w b (off + j) (f j)) (h2 : ∀ j x, cs[j]? = some x → VR G w (f j) x) :
      VR G w (.pointer (some ⟨b, off, none⟩)) (.vp cs)
  | sl0 (A : Option Addr) (cap : Nat) (o : Own) (hn : A = none → cap = 0) (h : OwnR G o (.slice A 0 cap) 0 cap) : VR G w (.slice A 0 cap) (.sl o [])
  | sl (b off len cap s : Nat) (o : Own) (els : List AV) (f : Nat → Nat → Value) (hl : els.length = len) (hc : len ≤ cap) (hs : ∀ x ∈ els, x.cells.length = s)
      (h1 : ∀ i j, i < len → j < s → Stb G w b (off + i * s + j) (f i j)) (h2 : ∀ i j x y, els[i]? = some x → x.cells[j]? = some y → VR G w (f i j) y)
      (ho : OwnR G o (.slice (some ⟨b, off, none⟩) len cap) len cap) : VR G w (.slice (some ⟨b, off, none⟩) len cap) (.sl o els)
  | map0 : VR G w (.map none) (.map none)
  | map (id b : Nat) (h : G.ρ id = some b) : VR G w (.map (some b)) (.map (some id))
  | fn (f : Nat) (a b : Array Value) (c d : List AV) (ha : a.size = c.length) (hb : b.size = d.length)
      (h1 : ∀ (i : Nat) v x, a[i]? = some v → c[i]? = some x → VR G w v x) (h2 : ∀ (i : Nat) v x, b[i]? = some v → d[i]? = some x → VR G w v x) : VR G w (.func (.func f) a b) (.fn f c d)
  | nilFn : VR G w .nilFunc .nilFn
  | iface (t : Nat) (v : Value) (x : AV) (h : VR G w v x) : VR G w (.iface t v) (.iface t x)
  | nilIface : VR G w .nilIface .nilIface
  | agg (a : Array Value) (c : List AV) (ha : a.size = c.length) (h1 : ∀ (i : Nat) v x, a[i]? = some v → c[i]? = some x → VR G w v x) : VR G w (.agg a) (.agg c)
  | tup (a : Array Value) (c : List AV) (ha : a.size = c.length) (h1 : ∀ (i : Nat) v x, a[i]? = some v → c[i]? = some x → VR G w v x) : VR G w (.tuple a) (.tup c)
  | rs (id len b cap : Nat) (own : Bool) (hc : len ≤ cap) (h : RowR G id len b fun c => own = true → c = cap) : VR G w (.slice (some ⟨b, 0, none⟩) len cap) (.rs id len own)
  | rp (id len off b : Nat) (h : RowR G id len b fun _ => True) : VR G w (.pointer (some ⟨b, off, none⟩)) (.rp id len off)

/-- Blocks that nothing writes: of the program's own variables. -/
structure KA0 where
  ka : List (Nat × (Option _root_.Go.Obj → Prop))
variable [Inhabited KA0] [MT]
def Kept [Inhabited KA0] (G : Gh) (w : World) : Prop := ∀ p ∈ (default : KA0).ka, p.2 w.heap[p.1]? ∧ p.1 < w.heap.size ∧ G.fr p.1 = none

/-- Rows of values. -/
def VRs (G : Gh) (w : World) (a : List Value) (c : List AV) : Prop := a.length = c.length ∧ ∀ (i : Nat) v x, a[i]? = some v → c[i]? = some x → VR G w v x

def ObjR (G : Gh) (w : World) : Option Obj → Option Go.Obj → Prop
  | some (.cells cs), some (.cells c _ fz) => fz = (0, 0) ∧ VRs G w c.toList cs
  | some (.map es), some (.map ents _) => ents.size = es.length ∧ ∀ (i : Nat) e k x, ents[i]? = some e → es[i]? = some (k, x) → VR G w e.key k ∧ VR G w e.val x
  | _, _ => False

/-- What a chain's object says of its block: a row that is not written any more, or what its cells are. -/
def ChR (G : Gh) (w : World) (o : Option Obj) (n e size k : Nat) (xs : List Value) : Prop :=
  (o = some (.chain n e size) ∧ k = n * size) ∨ ∃ cs, o = some (.row n e size cs) ∧ k = 0 ∧ VRs G w xs cs

structure Inv (G : Gh) (w : World) (h : H) : Prop where
  wf : ∀ id o, h.t.get id = some o → id < h.nx
  frb : ∀ b k, G.fr b = some k → G.base ≤ b ∧ b < w.heap.size
  bas : G.base ≤ w.heap.size
  obj : ∀ id b, G.ρ id = some b → id < h.nx ∧ G.fr b = some 0 ∧ G.ow b = some id ∧ ObjR G w (h.t.get id) w.heap[b]?
  chn : ∀ id n v, G.cv id = some (n, v) → id < h.nx ∧ ∃ g e size xs cap k, ChR G w (h.t.get id) n e size k xs ∧ v = .slice (some ⟨g, 0, none⟩) n cap ∧ w.ownsRow G.base e size v n xs ∧ G.fr g = some k ∧ G.ow g = some id ∧ 0 < size
  ka : Kept G w

/-- What comes later. -/
structure Ext (G : Gh) (w : World) (h : H) (G' : Gh) (w' : World) (h' : H) : Prop where
  os : w'.os = w.os
  tape : w'.tape = w.tape
  output : w'.output = w.output
  size : w.heap.size ≤ w'.heap.size
  base : G'.base = G.base
  still : ∀ b, b < w.heap.size → G.fr b = none → w'.heap[b]? = w.heap[b]? ∧ G'.fr b = none
  part : ∀ b k o v, G.fr b = some k → o < k → w.cell? ⟨b, o, none⟩ = some v → w'.cell? ⟨b, o, none⟩ = some v ∧ (G'.fr b = none ∨ ∃ k', G'.fr b = some k' ∧ o < k')
  ρ : ∀ id b, G.ρ id = some b → G'.ρ id = some b
  cv : ∀ id n v, G.cv id = some (n, v) → ∃ n' v', G'.cv id = some (n', v') ∧ n ≤ n' ∧ (n' = n → v' = v)
  nx : h.nx ≤ h'.nx
  unm : ∀ id, id < h.nx → G.ρ id = none → G.cv id = none → h'.t.get id = h.t.get id ∧ G'.ρ id = none ∧ G'.cv id = none
  own : ∀ b, b < w.heap.size → G.ow b = none → w'.heap[b]? = w.heap[b]? ∧ G'.fr b = G.fr b ∧ G'.ow b = none

theorem Ext.refl (G : Gh) (w : World) (h : H) : Ext G w h G w h :=
  ⟨rfl, rfl, rfl, Nat.le_refl _, rfl, fun _ _ h => ⟨rfl, h⟩, fun _ k _ _ h ho hv => ⟨hv, .inr ⟨k, h, ho⟩⟩, fun _ _ h => h, fun _ n v h => ⟨n, v, h, Nat.le_refl _, fun _ => rfl⟩, Nat.le_refl _, fun _ _ a b => ⟨rfl, a, b⟩, fun _ _ h => ⟨rfl, rfl, h⟩⟩

theorem Stb.lt {G : Gh} {w : World} {b o : Nat} {v : Value} (h : Stb G w b o v) : b < w.heap.size := World.block_lt_of_cell? w ⟨b, o, none⟩ h.1

section
variable {G G' G'' : Gh} {w w' w'' : World} {h h' h'' : H}
theorem Stb.mono (E : Ext G w h G' w' h') {b o : Nat} {v : Value} (s : Stb G w b o v) : Stb G' w' b o v := by
  rcases s.2 with hf | ⟨k, hf, ho⟩
  · obtain ⟨h1, h2⟩ := E.still b s.lt hf
    exact ⟨(World.cell?_of_block (w := w) (a := ⟨b, o, none⟩) h1).trans s.1, .inl h2⟩
  · exact E.part b k o v hf ho s.1
theorem Kept.mono (E : Ext G w h G' w' h') (K : Kept G w) : Kept G' w' := fun p hp => by
  obtain ⟨h1, h2, h3⟩ := K p hp
  obtain ⟨h4, h5⟩ := E.still p.1 h2 h3
  exact ⟨by rw [h4]; exact h1, Nat.lt_of_lt_of_le h2 E.size, h5⟩
theorem Ext.trans (E : Ext G w h G' w' h') (F : Ext G' w' h' G'' w'' h'') : Ext G w h G'' w'' h'' where
  os := F.os.trans E.os
  tape := F.tape.trans E.tape
  output := F.output.trans E.output
  size := Nat.le_trans E.size F.size
  base := F.base.trans E.base
  still := fun b hb hf => by
    obtain ⟨h1, h2⟩ := E.still b hb hf
    obtain ⟨h3, h4⟩ := F.still b (Nat.lt_of_lt_of_le hb E.size) h2
    exact ⟨h3.trans h1, h4⟩
  part := fun b k o v hf ho hv => by
    have hs : Stb G w b o v := ⟨hv, .inr ⟨k, hf, ho⟩⟩
    have h2 := (hs.mono E).mono F
    exact ⟨h2.1, h2.2⟩
  ρ := fun id b hr => F.ρ id b (E.ρ id b hr)
  cv := fun id n v hc => by
    obtain ⟨n1, v1, h1, h2, h3⟩ := E.cv id n v hc
    obtain ⟨n2, v2, h4, h5, h6⟩ := F.cv id n1 v1 h1
    refine ⟨n2, v2, h4, Nat.le_trans h2 h5, fun e => ?_⟩
    have e1 : n1 = n := by omega
    have e2 : n2 = n1 := by omega
    rw [h6 e2, h3 e1]
  nx := Nat.le_trans E.nx F.nx
  unm := fun id hi hr hc => by
    obtain ⟨h1, h2, h3⟩ := E.unm id hi hr hc
    obtain ⟨h4, h5, h6⟩ := F.unm id (Nat.lt_of_lt_of_le hi E.nx) h2 h3
    exact ⟨h4.trans h1, h5, h6⟩
  own := fun b hb ho => by
    obtain ⟨h1, h2, h3⟩ := E.own b hb ho
    obtain ⟨h4, h5, h6⟩ := F.own b (Nat.lt_of_lt_of_le hb E.size) h3
    exact ⟨h4.trans h1, h5.trans h2, h6⟩

theorem OwnR.mono (E : Ext G w h G' w' h') {o : Own} {v : Value} {len cap : Nat} (r : OwnR G o v len cap) : OwnR G' o v len cap := by
  cases o with
  | no => trivial
  | full => exact r
  | ch id =>
    obtain ⟨n, v', h1, h2, h3⟩ := r
    obtain ⟨n1, v1, h4, h5, h6⟩ := E.cv id n v' h1
    refine ⟨n1, v1, h4, Nat.le_trans h2 h5, fun e => ?_⟩
    have e1 : n1 = n := by omega
    rw [h6 e1, h3 (by omega)]
theorem RowR.mono (E : Ext G w h G' w' h') {id len b : Nat} {p : Nat → Prop} (r : RowR G id len b p) : RowR G' id len b p := by
  obtain ⟨n, v', h1, h2, h3⟩ := r
  obtain ⟨n1, v1, h4, h5, h6⟩ := E.cv id n v' h1
  refine ⟨n1, v1, h4, Nat.le_trans h2 h5, fun e => ?_⟩
  have e1 : n1 = n := by omega
  rw [h6 e1]
  exact h3 (by omega)
theorem VR.mono (E : Ext G w h G' w' h') {v : Value} {x : AV} (r : VR G w v x) : VR G' w' v x := by
  induction r with
  | bool b => exact .bool b
  | int k n => exact .int k n
  | str s => exact .str s
  | ptr0 => exact .ptr0
  | ptr id b off h => exact .ptr id b off (E.ρ _ _ h)
  | vp b off cs f h1 h2 ih => exact .vp b off cs f (fun j hj => (h1 j hj).mono E) ih
  | sl0 A cap o hn h => exact .sl0 A cap o hn (h.mono E)
  | sl b off len cap s o els f hl hc hs h1 h2 ho ih => exact .sl b off len cap s o els f hl hc hs (fun i j hi hj => (h1 i j hi hj).mono E) ih (ho.mono E)
  | map0 => exact .map0
  | map id b h => exact .map id b (E.ρ _ _ h)
  | fn f a b c d ha hb h1 h2 i1 i2 => exact .fn f a b c d ha hb i1 i2
  | nilFn => exact .nilFn
  | iface t v x h ih => exact .iface t v x ih
  | nilIface => exact .nilIface
  | agg a c ha h1 ih => exact .agg a c ha ih
  | tup a c ha h1 ih => exact .tup a c ha ih
  | rs id len b cap own hc h => exact .rs id len b cap own hc (h.mono E)
  | rp id len off b h => exact .rp id len off b (h.mono E)
theorem VRs.mono (E : Ext G w h G' w' h') {a : List Value} {c : List AV} (r : VRs G w a c) : VRs G' w' a c := ⟨r.1, fun i v x h1 h2 => (r.2 i v x h1 h2).mono E⟩
theorem ChR.mono (E : Ext G w h G' w' h') {o : Option Obj} {n e size k : Nat} {xs : List Value} (r : ChR G w o n e size k xs) : ChR G' w' o n e size k xs :=
  r.imp (fun x => x) fun ⟨cs, h1, h2, h3⟩ => ⟨cs, h1, h2, h3.mono E⟩
theorem ChR.no_obj {o : Option Obj} {n e size k : Nat} {xs : List Value} {p : Option Go.Obj} (r : ChR G w o n e size k xs) (q : ObjR G' w' o p) : False := by
  rcases r with ⟨rfl, _⟩ | ⟨cs, rfl, _⟩
  · exact q.elim
  · exact q.elim
theorem ObjR.mono (E : Ext G w h G' w' h') {o : Option Obj} {p : Option Go.Obj} (r : ObjR G w o p) : ObjR G' w' o p := by
  match o, p, r with
  | some (.cells cs), some (.cells c _ fz), r => exact ⟨r.1, r.2.mono E⟩
  | some (.map es), some (.map ents _), r => exact ⟨r.1, fun i e k x h1 h2 => ⟨(r.2 i e k x h1 h2).1.mono E, (r.2 i e k x h1 h2).2.mono E⟩⟩
end

theorem VRs.nil (G : Gh) (w : World) : VRs G w [] [] := ⟨rfl, fun i v x h => by simp at h⟩
theorem VRs.cons {G : Gh} {w : World} {v : Value} {x : AV} {a : List Value} {c : List AV} (h : VR G w v x) (r : VRs G w a c) : VRs G w (v :: a) (x :: c) := by
  refine ⟨by simp [r.1], fun i u y hu hy => ?_⟩
  cases i with
  | zero => simp at hu hy; subst hu; subst hy; exact h
  | succ i => simp at hu hy; exact r.2 i u y hu hy
theorem VRs.uncons {G : Gh} {w : World} {a : List Value} {x : AV} {c : List AV} (r : VRs G w a (x :: c)) : ∃ v b, a = v :: b ∧ VR G w v x ∧ VRs G w b c := by
  cases a with
  | nil => have := r.1; simp at this
  | cons v b => exact ⟨v, b, rfl, r.2 0 v x rfl rfl, by have := r.1; simpa using this, fun i u y hu hy => r.2 (i + 1) u y (by simpa using hu) (by simpa using hy)⟩
theorem VRs.append {G : Gh} {w : World} {a b : List Value} {c d : List AV} (h : VRs G w a c) (k : VRs G w b d) : VRs G w (a ++ b) (c ++ d) := by
  refine ⟨by simp [h.1, k.1], fun i u y hu hy => ?_⟩
  rcases Nat.lt_or_ge i a.length with hi | hi
  · rw [List.getElem?_append_left hi] at hu
    rw [List.getElem?_append_left (by rw [← h.1]; exact hi)] at hy
    exact h.2 i u y hu hy
  · rw [List.getElem?_append_right hi] at hu
    rw [List.getElem?_append_right (by rw [← h.1]; exact hi), ← h.1] at hy
    exact k.2 _ u y hu hy

/-- A value's cells. -/
theorem VR.cells {G : Gh} {w : World} {v : Value} {x : AV} (r : VR G w v x) : VRs G w v.cells.toList x.cells := by
  have one : ∀ {u : Value} {y : AV}, VR G w u y → VRs G w [u] [y] := fun h => .cons h (.nil G w)
  cases r with
  | agg a c ha h1 => exact ⟨by simpa [Value.cells, AV.cells] using ha, fun i v x hv hx => h1 i v x (by simpa [Value.cells] using hv) hx⟩
  | _ => exact one (by first | assumption | constructor <;> assumption)
theorem VR.one {G : Gh} {w : World} {v : Value} {x : AV} (r : VR G w v x) (h : x.one = true) : v.oneCell' = true := by
  cases r <;> simp_all [AV.one, Value.oneCell']

end Go.Ev
