/- Functions of plain values as primitives; types as trees. -/
import Derived.Test.YtncccgglillmoaaGreatDoorEwB
import Derived.Lib.SlicesCompact
set_option autoImplicit false
set_option maxRecDepth 100000
set_option linter.unusedSimpArgs false
set_option linter.unusedVariables false
set_option linter.unusedSectionVars false
namespace Go.Ev
variable [MT]

/-- What a value is to the machine, owners aside. -/
class Enc (α : Type) where
  enc : α → AV
  inj : ∀ {x : AV} {a b : α}, x.wk 0 (enc a) → x.wk 0 (enc b) → a = b
  bare : ∀ (n : Nat) (a : α), (enc a).wk n (enc a)
open Enc (enc)
/-- Encodings lie so far above nothing that any bound will do. -/
instance : Enc Int where
  enc n := .int .i64 n
  inj := by
    intro x a b h1 h2
    cases x with
    | ptr p => cases p <;> simp [AV.wk] at h1
    | map p => cases p <;> simp [AV.wk] at h1
    | int k m => simp [AV.wk] at h1 h2; rw [h1.2, h2.2]
    | _ => simp [AV.wk] at h1
  bare := fun n a => by simp [AV.wk]
instance : Enc Bool where
  enc b := .bool b
  inj := by
    intro x a b h1 h2
    cases x with
    | ptr p => cases p <;> simp [AV.wk] at h1
    | map p => cases p <;> simp [AV.wk] at h1
    | bool c => simp [AV.wk] at h1 h2; rw [h1, h2]
    | _ => simp [AV.wk] at h1
  bare := fun n a => by simp [AV.wk]
/-- A text. -/
structure Str where
  s : List Nat
instance : Enc Str where
  enc t := .str t.s
  inj := by
    intro x a b h1 h2
    cases x with
    | ptr p => cases p <;> simp [AV.wk] at h1
    | map p => cases p <;> simp [AV.wk] at h1
    | str s =>
      simp [AV.wk] at h1 h2
      obtain ⟨a⟩ := a
      obtain ⟨b⟩ := b
      simp at h1 h2
      rw [h1, h2]
    | _ => simp [AV.wk] at h1
  bare := fun n a => by simp [AV.wk]
theorem wks_map_inj {α : Type} [Enc α] : ∀ {els : List AV} {a b : List α}, AV.wks 0 els (a.map enc) → AV.wks 0 els (b.map enc) → a = b
  | [], a, b, h1, h2 => by
    simp only [AV.wks, List.map_eq_nil_iff] at h1 h2
    rw [h1, h2]
  | x :: els, a, b, h1, h2 => by
    simp only [AV.wks] at h1 h2
    obtain ⟨y, k, e1, g1, g2⟩ := h1
    obtain ⟨z, m, e2, g3, g4⟩ := h2
    cases a with
    | nil => simp at e1
    | cons a0 a =>
      cases b with
      | nil => simp at e2
      | cons b0 b =>
        simp only [List.map_cons, List.cons.injEq] at e1 e2
        obtain ⟨rfl, rfl⟩ := e1
        obtain ⟨rfl, rfl⟩ := e2
        rw [Enc.inj g1 g3, wks_map_inj g2 g4]
theorem wks_map_refl {α : Type} [Enc α] (n : Nat) : ∀ (l : List α), AV.wks n (l.map enc) (l.map enc)
  | [] => by simp [AV.wks]
  | a :: l => ⟨_, _, rfl, Enc.bare n a, wks_map_refl n l⟩
instance {α : Type} [Enc α] : Enc (List α) where
  enc l := .sl .no (l.map enc)
  inj := by
    intro x a b h1 h2
    cases x with
    | ptr p => cases p <;> simp [AV.wk] at h1
    | map p => cases p <;> simp [AV.wk] at h1
    | sl o els =>
      simp only [AV.wk] at h1 h2
      obtain ⟨p, ds, e1, _, g1⟩ := h1
      obtain ⟨q, es, e2, _, g2⟩ := h2
      simp only [AV.sl.injEq] at e1 e2
      rw [← e1.2] at g1
      rw [← e2.2] at g2
      exact wks_map_inj g1 g2
    | _ => simp [AV.wk] at h1
  bare := fun n l => by
    simp only [AV.wk]
    exact ⟨.no, _, rfl, .inl rfl, wks_map_refl n l⟩

/-! ### Primitives of relations -/
noncomputable def ofRel (R : List AV → AV → Prop) : List AV → Option AV := fun args => by
  classical exact if h : ∃ v, R args v then some h.choose else none
theorem ofRel_some {R : List AV → AV → Prop} {args : List AV} {v : AV} (h : ofRel R args = some v) : R args v := by
  unfold ofRel at h
  split at h
  · rename_i he
    rw [← Option.some.inj h]
    exact he.choose_spec
  · simp at h
theorem ofRel_of {R : List AV → AV → Prop} {args : List AV} {v : AV} (h : R args v) (hu : ∀ u, R args u → u = v) : ofRel R args = some v := by
  unfold ofRel
  have he : ∃ v, R args v := ⟨v, h⟩
  rw [dif_pos he, hu _ he.choose_spec]
section
variable {α β γ δ : Type} [Enc α] [Enc β] [Enc γ] [Enc δ]
def Rel1 (q : α → Prop) (F : α → δ) (args : List AV) (v : AV) : Prop := ∃ a, AV.wks 0 args [enc a] ∧ q a ∧ v = enc (F a)
def Rel2 (q : α → β → Prop) (F : α → β → δ) (args : List AV) (v : AV) : Prop := ∃ a b, AV.wks 0 args [enc a, enc b] ∧ q a b ∧ v = enc (F a b)
def Rel3 (q : α → β → γ → Prop) (F : α → β → γ → δ) (args : List AV) (v : AV) : Prop := ∃ a b c, AV.wks 0 args [enc a, enc b, enc c] ∧ q a b c ∧ v = enc (F a b c)
theorem wks1 {n : Nat} {x y : AV} : AV.wks n [x] [y] ↔ x.wk n y := by
  simp only [AV.wks]
  constructor
  · rintro ⟨b, k, e, h, rfl⟩
    simp only [List.cons.injEq] at e
    rw [e.1]; exact h
  · intro h; exact ⟨y, [], rfl, h, rfl⟩
theorem wks_cons {n : Nat} {x y : AV} {l m : List AV} : AV.wks n (x :: l) (y :: m) ↔ x.wk n y ∧ AV.wks n l m := by
  simp only [AV.wks]
  constructor
  · rintro ⟨b, k, e, h1, h2⟩
    simp only [List.cons.injEq] at e
    rw [e.1, e.2]; exact ⟨h1, h2⟩
  · rintro ⟨h1, h2⟩; exact ⟨y, m, rfl, h1, h2⟩
theorem wks_nil {n : Nat} : AV.wks n [] [] := by simp [AV.wks]
theorem wk_agg {n : Nat} {a b : List AV} : (AV.agg a).wk n (.agg b) ↔ AV.wks n a b := by simp [AV.wk]
theorem wk_tup {n : Nat} {a b : List AV} : (AV.tup a).wk n (.tup b) ↔ AV.wks n a b := by simp [AV.wk]
theorem wk_sl {n : Nat} {o p : Own} {a b : List AV} : (AV.sl o a).wk n (.sl p b) ↔ o.wk n p ∧ AV.wks n a b := by
  simp only [AV.wk, AV.sl.injEq]
  constructor
  · rintro ⟨q, ds, ⟨rfl, rfl⟩, h⟩; exact h
  · intro h; exact ⟨p, b, ⟨rfl, rfl⟩, h⟩
theorem wk_int {n : Nat} {k : IntKind} {m : Int} : (AV.int k m).wk n (.int k m) := by simp [AV.wk]
theorem wk_str {n : Nat} {s : List Nat} : (AV.str s).wk n (.str s) := by simp [AV.wk]
theorem wk_bool {n : Nat} {b : Bool} : (AV.bool b).wk n (.bool b) := by simp [AV.wk]
theorem own_no {n : Nat} {o : Own} : o.wk n .no := .inl rfl
theorem rel1_of {q : α → Prop} {F : α → δ} {x : AV} {a : α} (hx : x.wk 0 (enc a)) (hq : q a) : ofRel (Rel1 q F) [x] = some (enc (F a)) :=
  ofRel_of ⟨a, wks1.2 hx, hq, rfl⟩ fun u ⟨b, h1, _, h2⟩ => by rw [h2, Enc.inj (wks1.1 h1) hx]
theorem rel2_of {q : α → β → Prop} {F : α → β → δ} {x y : AV} {a : α} {b : β} (hx : x.wk 0 (enc a)) (hy : y.wk 0 (enc b)) (hq : q a b) : ofRel (Rel2 q F) [x, y] = some (enc (F a b)) :=
  ofRel_of ⟨a, b, wks_cons.2 ⟨hx, wks1.2 hy⟩, hq, rfl⟩ fun u ⟨a', b', h1, _, h2⟩ => by
    obtain ⟨g1, g2⟩ := wks_cons.1 h1
    rw [h2, Enc.inj g1 hx, Enc.inj (wks1.1 g2) hy]
theorem rel3_of {q : α → β → γ → Prop} {F : α → β → γ → δ} {x y z : AV} {a : α} {b : β} {c : γ} (hx : x.wk 0 (enc a)) (hy : y.wk 0 (enc b)) (hz : z.wk 0 (enc c)) (hq : q a b c) : ofRel (Rel3 q F) [x, y, z] = some (enc (F a b c)) :=
  ofRel_of ⟨a, b, c, wks_cons.2 ⟨hx, wks_cons.2 ⟨hy, wks1.2 hz⟩⟩, hq, rfl⟩ fun u ⟨a', b', c', h1, _, h2⟩ => by
    obtain ⟨g1, g2⟩ := wks_cons.1 h1
    obtain ⟨g3, g4⟩ := wks_cons.1 g2
    rw [h2, Enc.inj g1 hx, Enc.inj g3 hy, Enc.inj (wks1.1 g4) hz]
variable [Inhabited KA0] {P : Program} {E : Env}
theorem prim1_ok (hE : EnvOk P E) {f : Nat} {fn : Func} {c : Code} (hf : E.fns f = some fn) (hb : fn.body = some c) (hn : Nat.ble 1 fn.ntmps = true) {q : α → Prop} {F : α → δ}
    (h : ∀ a, q a → ∃ v' h1, bodyL E f fn c [enc a] ⟨.e, 0⟩ = some (v', h1) ∧ v'.wk 0 (enc (F a))) : PrimOk P f (primVal (ofRel (Rel1 q F))) :=
  primVal_ok hE hf hb fun args v hv => by
    obtain ⟨a, h1, h2, rfl⟩ := ofRel_some hv
    refine ⟨by rw [(wks_iff.1 h1).1]; exact hn, _, h1, h a h2⟩
theorem prim2_ok (hE : EnvOk P E) {f : Nat} {fn : Func} {c : Code} (hf : E.fns f = some fn) (hb : fn.body = some c) (hn : Nat.ble 2 fn.ntmps = true) {q : α → β → Prop} {F : α → β → δ}
    (h : ∀ a b, q a b → ∃ v' h1, bodyL E f fn c [enc a, enc b] ⟨.e, 0⟩ = some (v', h1) ∧ v'.wk 0 (enc (F a b))) : PrimOk P f (primVal (ofRel (Rel2 q F))) :=
  primVal_ok hE hf hb fun args v hv => by
    obtain ⟨a, b, h1, h2, rfl⟩ := ofRel_some hv
    refine ⟨by rw [(wks_iff.1 h1).1]; exact hn, _, h1, h a b h2⟩
theorem prim3_ok (hE : EnvOk P E) {f : Nat} {fn : Func} {c : Code} (hf : E.fns f = some fn) (hb : fn.body = some c) (hn : Nat.ble 3 fn.ntmps = true) {q : α → β → γ → Prop} {F : α → β → γ → δ}
    (h : ∀ a b e, q a b e → ∃ v' h1, bodyL E f fn c [enc a, enc b, enc e] ⟨.e, 0⟩ = some (v', h1) ∧ v'.wk 0 (enc (F a b e))) : PrimOk P f (primVal (ofRel (Rel3 q F))) :=
  primVal_ok hE hf hb fun args v hv => by
    obtain ⟨a, b, e, h1, h2, rfl⟩ := ofRel_some hv
    refine ⟨by rw [(wks_iff.1 h1).1]; exact hn, _, h1, h a b e h2⟩
omit [Inhabited KA0] in
theorem prim1_call {f : Nat} {q : α → Prop} {F : α → δ} (hp : E.prim f = some (primVal (ofRel (Rel1 q F)))) {x : AV} {a : α} (hx : x.wk 0 (enc a)) (hq : q a) (h : H) : evL E f [x] h = some (enc (F a), h) := by
  rw [evL_prim E hp, primVal, rel1_of hx hq]
omit [Inhabited KA0] in
theorem prim2_call {f : Nat} {q : α → β → Prop} {F : α → β → δ} (hp : E.prim f = some (primVal (ofRel (Rel2 q F)))) {x y : AV} {a : α} {b : β} (hx : x.wk 0 (enc a)) (hy : y.wk 0 (enc b)) (hq : q a b) (h : H) : evL E f [x, y] h = some (enc (F a b), h) := by
  rw [evL_prim E hp, primVal, rel2_of hx hy hq]
omit [Inhabited KA0] in
theorem prim3_call {f : Nat} {q : α → β → γ → Prop} {F : α → β → γ → δ} (hp : E.prim f = some (primVal (ofRel (Rel3 q F)))) {x y z : AV} {a : α} {b : β} {c : γ} (hx : x.wk 0 (enc a)) (hy : y.wk 0 (enc b)) (hz : z.wk 0 (enc c)) (hq : q a b c) (h : H) : evL E f [x, y, z] h = some (enc (F a b c), h) := by
  rw [evL_prim E hp, primVal, rel3_of hx hy hz hq]
end

/-! ### Primitives of relations with the heap -/
noncomputable def ofRelH (R : List AV → H → AV → H → Prop) : List AV → H → Option (AV × H) := fun args h => by
  classical exact if he : ∃ r : AV × H, R args h r.1 r.2 then some he.choose else none
theorem ofRelH_some {R : List AV → H → AV → H → Prop} {args : List AV} {h h' : H} {v : AV} (he : ofRelH R args h = some (v, h')) : R args h v h' := by
  unfold ofRelH at he
  split at he
  · rename_i hx
    have := hx.choose_spec
    rw [Option.some.inj he] at this
    exact this
  · simp at he
theorem ofRelH_of {R : List AV → H → AV → H → Prop} {args : List AV} {h h' : H} {v : AV} (hr : R args h v h') (hu : ∀ u k, R args h u k → u = v ∧ k = h') : ofRelH R args h = some (v, h') := by
  unfold ofRelH
  have he : ∃ r : AV × H, R args h r.1 r.2 := ⟨(v, h'), hr⟩
  rw [dif_pos he]
  have := hu _ _ he.choose_spec
  exact congrArg some (Prod.ext this.1 this.2)
mutual
theorem wk_mono {n m : Nat} (hn : n ≤ m) : ∀ {x y : AV}, x.wk n y → x.wk m y
  | .ptr none, y, h => by simp only [AV.wk] at h ⊢; exact h
  | .ptr (some (id, o)), y, h => by simp only [AV.wk] at h ⊢; exact ⟨by omega, h.2⟩
  | .map none, y, h => by simp only [AV.wk] at h ⊢; exact h
  | .map (some id), y, h => by simp only [AV.wk] at h ⊢; exact ⟨by omega, h.2⟩
  | .vp cs, y, h => by simp only [AV.wk] at h ⊢; obtain ⟨ds, e, h⟩ := h; exact ⟨ds, e, wks_mono hn h⟩
  | .sl o els, y, h => by
    simp only [AV.wk] at h ⊢
    obtain ⟨p, ds, e, hw, h⟩ := h
    exact ⟨p, ds, e, hw.imp id fun q => ⟨q.1, fun i hi => by have := q.2 i hi; omega⟩, wks_mono hn h⟩
  | .fn f a b, y, h => by simp only [AV.wk] at h ⊢; obtain ⟨c, d, e, h1, h2⟩ := h; exact ⟨c, d, e, wks_mono hn h1, wks_mono hn h2⟩
  | .iface t v, y, h => by simp only [AV.wk] at h ⊢; obtain ⟨u, e, h⟩ := h; exact ⟨u, e, wk_mono hn h⟩
  | .agg cs, y, h => by simp only [AV.wk] at h ⊢; obtain ⟨ds, e, h⟩ := h; exact ⟨ds, e, wks_mono hn h⟩
  | .tup cs, y, h => by simp only [AV.wk] at h ⊢; obtain ⟨ds, e, h⟩ := h; exact ⟨ds, e, wks_mono hn h⟩
  | .bool _, y, h => by simp only [AV.wk] at h ⊢; exact h
  | .int _ _, y, h => by simp only [AV.wk] at h ⊢; exact h
  | .str _, y, h => by simp only [AV.wk] at h ⊢; exact h
  | .nilFn, y, h => by simp only [AV.wk] at h ⊢; exact h
  | .nilIface, y, h => by simp only [AV.wk] at h ⊢; exact h
  | .rs id a b, y, h => by simp only [AV.wk] at h ⊢; exact ⟨by omega, h.2⟩
  | .rp id a b, y, h => by simp only [AV.wk] at h ⊢; exact ⟨by omega, h.2⟩
theorem wks_mono {n m : Nat} (hn : n ≤ m) : ∀ {x y : List AV}, AV.wks n x y → AV.wks m x y
  | [], y, h => by simp only [AV.wks] at h ⊢; exact h
  | a :: l, y, h => by simp only [AV.wks] at h ⊢; obtain ⟨b, k, e, h1, h2⟩ := h; exact ⟨b, k, e, wk_mono hn h1, wks_mono hn h2⟩
end
theorem nq2 (a : Nat) : (a = a + 1 + 1) ↔ False := ⟨fun h => by omega, False.elim⟩
theorem nq3 (a : Nat) : (a = a + 1 + 1 + 1) ↔ False := ⟨fun h => by omega, False.elim⟩
theorem nq4 (a : Nat) : (a = a + 1 + 1 + 1 + 1) ↔ False := ⟨fun h => by omega, False.elim⟩
theorem nq5 (a : Nat) : (a = a + 1 + 1 + 1 + 1 + 1) ↔ False := ⟨fun h => by omega, False.elim⟩
theorem nr2 (a : Nat) : (a + 1 + 1 = a) ↔ False := ⟨fun h => by omega, False.elim⟩
theorem nr3 (a : Nat) : (a + 1 + 1 + 1 = a) ↔ False := ⟨fun h => by omega, False.elim⟩
theorem nr4 (a : Nat) : (a + 1 + 1 + 1 + 1 = a) ↔ False := ⟨fun h => by omega, False.elim⟩
theorem nr5 (a : Nat) : (a + 1 + 1 + 1 + 1 + 1 = a) ↔ False := ⟨fun h => by omega, False.elim⟩
theorem wk_ptr {n i o : Nat} (h : i < n) : (AV.ptr (some (i, o))).wk n (.ptr (some (i, o))) := by simp [AV.wk, h]

/-! ### Types -/
inductive Ty where
  | mk (op : List Nat) (n : Int) (kids : List Ty)
namespace Ty
def op : Ty → List Nat | .mk o _ _ => o
def n : Ty → Int | .mk _ n _ => n
def kids : Ty → List Ty | .mk _ _ k => k
mutual
def av : Ty → AV
  | .mk op n ks => .agg [.str op, .int .i64 n, .sl .no (avs ks)]
def avs : List Ty → List AV
  | [] => []
  | t :: l => av t :: avs l
end
theorem avs_map : ∀ l : List Ty, avs l = l.map av
  | [] => rfl
  | t :: l => by rw [avs, avs_map l]; rfl
mutual
theorem av_inj : ∀ {a b : Ty} {x : AV}, x.wk 0 a.av → x.wk 0 b.av → a = b
  | .mk o1 n1 k1, .mk o2 n2 k2, x, h1, h2 => by
    simp only [av] at h1 h2
    cases x with
    | ptr p => cases p <;> simp [AV.wk] at h1
    | map p => cases p <;> simp [AV.wk] at h1
    | agg cs =>
      simp only [AV.wk, AV.agg.injEq] at h1 h2
      obtain ⟨ds, rfl, h1⟩ := h1
      obtain ⟨es, rfl, h2⟩ := h2
      match cs, h1, h2 with
      | [c0, c1, c2], h1, h2 =>
        simp only [wks_cons] at h1 h2
        obtain ⟨a1, a2, a3, _⟩ := h1
        obtain ⟨b1, b2, b3, _⟩ := h2
        have e1 : o1 = o2 := congrArg Str.s (Enc.inj (α := Str) (a := ⟨o1⟩) (b := ⟨o2⟩) a1 b1)
        have e2 : n1 = n2 := Enc.inj (α := Int) a2 b2
        cases c2 with
        | ptr p => cases p <;> simp [AV.wk] at a3
        | map p => cases p <;> simp [AV.wk] at a3
        | sl o els =>
          simp only [AV.wk, AV.sl.injEq] at a3 b3
          obtain ⟨p, ds, ⟨_, rfl⟩, _, a3⟩ := a3
          obtain ⟨q, es, ⟨_, rfl⟩, _, b3⟩ := b3
          rw [e1, e2, avs_inj a3 b3]
        | _ => simp [AV.wk] at a3
      | [], h1, _ => exact absurd (wks_iff.1 h1).1 (by simp)
      | [_], h1, _ => exact absurd (wks_iff.1 h1).1 (by simp)
      | [_, _], h1, _ => exact absurd (wks_iff.1 h1).1 (by simp)
      | _ :: _ :: _ :: _ :: _, h1, _ => exact absurd (wks_iff.1 h1).1 (by simp)
    | _ => simp [AV.wk] at h1
theorem avs_inj : ∀ {a b : List Ty} {x : List AV}, AV.wks 0 x (avs a) → AV.wks 0 x (avs b) → a = b
  | [], [], _, _, _ => rfl
  | [], _ :: _, x, h1, h2 => by
    have e1 := (wks_iff.1 h1).1
    have e2 := (wks_iff.1 h2).1
    simp [avs] at e1 e2
    rw [e1] at e2; simp at e2
  | _ :: _, [], x, h1, h2 => by
    have e1 := (wks_iff.1 h1).1
    have e2 := (wks_iff.1 h2).1
    simp [avs] at e1 e2
    rw [e2] at e1; simp at e1
  | a :: l, b :: m, x, h1, h2 => by
    cases x with
    | nil => simp [AV.wks, avs] at h1
    | cons y x =>
      simp only [avs, wks_cons] at h1 h2
      rw [av_inj h1.1 h2.1, avs_inj h1.2 h2.2]
end
mutual
theorem av_bare (n : Nat) : ∀ t : Ty, t.av.wk n t.av
  | .mk o m ks => by
    simp only [av, AV.wk]
    exact ⟨_, rfl, wks_cons.2 ⟨by simp [AV.wk], wks_cons.2 ⟨by simp [AV.wk], wks_cons.2 ⟨by
      simp only [AV.wk]
      exact ⟨.no, _, rfl, .inl rfl, avs_bare n ks⟩, by simp [AV.wks]⟩⟩⟩⟩
theorem avs_bare (n : Nat) : ∀ l : List Ty, AV.wks n (avs l) (avs l)
  | [] => by simp [AV.wks, avs]
  | t :: l => ⟨_, _, rfl, av_bare n t, avs_bare n l⟩
end
instance : Enc Ty := ⟨av, av_inj, av_bare⟩
end Ty
end Go.Ev
/- What Sort and Compact come to: the row that rises and has the same members. -/
namespace Go.Ev
section
variable {α : Type} [Inhabited α] [DecidableEq α] {le : α → α → Prop}
theorem upTo_mem (d : Array α) (m : Nat) (x : α) : x ∈ Lib.compactUpTo d m ↔ ∃ j, j < m ∧ d[j]! = x := by
  simp only [Lib.compactUpTo, List.mem_map, List.mem_filter, List.mem_range]
  constructor
  · rintro ⟨j, ⟨h1, _⟩, h3⟩; exact ⟨j, h1, h3⟩
  · rintro ⟨j, h1, h3⟩
    induction j with
    | zero => exact ⟨0, ⟨h1, by simp [Lib.keeps]⟩, h3⟩
    | succ j ih =>
      by_cases h : d[j + 1]! = d[j]!
      · exact ih (by omega) (by rw [← h]; exact h3)
      · exact ⟨j + 1, ⟨h1, by simp [Lib.keeps, h]⟩, h3⟩
theorem upTo_strict (tr : ∀ a b c, le a b → le b c → le a c) (an : ∀ a b, le a b → le b a → a = b) (d : Array α) (hd : ∀ i j, i < j → j < d.size → le d[i]! d[j]!) (rf : ∀ a, le a a) :
    ∀ m, m ≤ d.size → (Lib.compactUpTo d m).Pairwise fun x y => le x y ∧ x ≠ y
  | 0, _ => by simp [Lib.compactUpTo]
  | m + 1, hm => by
    rw [Lib.compactUpTo_succ]
    have ih := upTo_strict tr an d hd rf m (by omega)
    by_cases hk : Lib.keeps d m
    · rw [if_pos hk, List.pairwise_append]
      refine ⟨ih, by simp, fun x hx y hy => ?_⟩
      obtain ⟨j, hj, rfl⟩ := (upTo_mem d m x).1 hx
      simp only [List.mem_singleton] at hy
      subst hy
      refine ⟨hd j m hj (by omega), fun e => ?_⟩
      simp only [Lib.keeps, decide_eq_true_eq] at hk
      rcases hk with h | h
      · omega
      · refine h (an _ _ ?_ (hd (m - 1) m (by omega) (by omega)))
        rw [← e]
        by_cases h' : j = m - 1
        · rw [h']; exact rf _
        · exact hd j (m - 1) (by omega) (by omega)
    · rw [if_neg hk, List.append_nil]; exact ih
theorem compact_sorted (rf : ∀ a, le a a) (tr : ∀ a b c, le a b → le b c → le a c) (an : ∀ a b, le a b → le b a → a = b) {zs : List α} (h : zs.Pairwise le) :
    (Lib.compact zs).Pairwise (fun x y => le x y ∧ x ≠ y) ∧ ∀ x, x ∈ Lib.compact zs ↔ x ∈ zs := by
  refine ⟨upTo_strict tr an _ (fun i j hij hj => ?_) rf _ (by simp), fun x => ?_⟩
  · have hj' : j < zs.length := by simpa using hj
    have := List.pairwise_iff_getElem.1 h i j (by omega) hj' hij
    simpa [getElem!_pos, hj', show i < zs.length by omega] using this
  · unfold Lib.compact
    rw [upTo_mem, List.mem_iff_getElem]
    constructor
    · rintro ⟨j, hj, e⟩; exact ⟨j, hj, by rw [← e]; simp [hj]⟩
    · rintro ⟨j, hj, e⟩; exact ⟨j, hj, by rw [← e]; simp [hj]⟩
theorem strict_eq (an : ∀ a b, le a b → le b a → a = b) : ∀ {l m : List α}, l.Pairwise (fun x y => le x y ∧ x ≠ y) → m.Pairwise (fun x y => le x y ∧ x ≠ y) → (∀ x, x ∈ l ↔ x ∈ m) → l = m
  | [], [], _, _, _ => rfl
  | [], b :: m, _, _, h => by have := (h b).2 (List.mem_cons_self ..); simp at this
  | a :: l, [], _, _, h => by have := (h a).1 (List.mem_cons_self ..); simp at this
  | a :: l, b :: m, hl, hm, h => by
    rw [List.pairwise_cons] at hl hm
    have e : a = b := by
      rcases List.mem_cons.1 ((h a).1 (List.mem_cons_self ..)) with e | e
      · exact e
      · rcases List.mem_cons.1 ((h b).2 (List.mem_cons_self ..)) with e2 | e2
        · exact e2.symm
        · exact an _ _ (hl.1 b e2).1 (hm.1 a e).1
    subst e
    rw [strict_eq an hl.2 hm.2 fun x => ?_]
    constructor
    · intro hx
      rcases List.mem_cons.1 ((h x).1 (List.mem_cons_of_mem _ hx)) with e | e
      · exact absurd e.symm (hl.1 x hx).2
      · exact e
    · intro hx
      rcases List.mem_cons.1 ((h x).2 (List.mem_cons_of_mem _ hx)) with e | e
      · exact absurd e.symm (hm.1 x hx).2
      · exact e
end
end Go.Ev
/- A primitive of values alone out of a proof about calls. -/
namespace Go.Ev
variable [MT]
section
variable [Inhabited KA0] {P : Program}
/-- Old blocks as they were. -/
structure Old (w w' : World) : Prop where
  os : w'.os = w.os
  tape : w'.tape = w.tape
  output : w'.output = w.output
  size : w.heap.size ≤ w'.heap.size
  same : ∀ j, j < w.heap.size → w'.heap[j]? = w.heap[j]?
theorem primVal_direct {f : Nat} {fn : Func} (q1 : P.funcs[f]? = some fn) (q2 : (fn.name == "runtime.NumGoroutine") = false) (q3 : fn.body.isNone = false) {p : List AV → Option AV}
    (hp : ∀ args v, p args = some v → ∃ args', AV.wks 0 args args' ∧ ∀ (G : Gh) (w : World) (A : Array Value), Inv (Gp G) w ⟨.e, 0⟩ → VRs (Gp G) w A.toList args' →
      Calls P f A w fun e w' => ∃ V, e = .returned V ∧ Old w w' ∧ ∀ G' : Gh, (∀ b, w.heap.size ≤ b → G'.fr b = none) → VR G' w' V v) : PrimOk P f (primVal p) := by
  refine ⟨⟨fn, q1, q2, q3⟩, fun args h v hk he G w A I hA => ?_⟩
  unfold primVal at he
  cases hv : p args with
  | none => rw [hv] at he; simp at he
  | some v0 =>
    rw [hv] at he
    simp only [Option.some.injEq, Prod.mk.injEq] at he
    obtain ⟨rfl, rfl⟩ := he
    obtain ⟨args', hwa, hc⟩ := hp args v0 hv
    have hA' : VRs (Gp G) w A.toList args' := VRs.wk (n := 0) (G := G) (G' := Gp G) (fun b o v s => s) (fun id b hi => by omega) (fun id m v hi => by omega) hA hwa
    refine (hc G w A (invp I) hA').mono ?_
    rintro e w' ⟨V, rfl, O, hV⟩
    refine ⟨G, V, rfl, hV G fun b hb => ?_, grow_inv I O.os O.tape O.output O.size O.same, grow_ext G _ O.os O.tape O.output O.size O.same⟩
    cases hf : G.fr b with
    | none => rfl
    | some k => exact absurd (I.frb b k hf).2 (by omega)
end
end Go.Ev
