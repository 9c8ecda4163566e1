/- Expressions as arguments; what is of no program about primitives of values. -/
import Derived.Test.YtncccgglillmoaaGreatDoorEwD
import Derived.Test.YtncccgglillmoaaGreatDoorEwG
import Derived.Test.YtncccgglillmoaaGreatDoorEvZ
set_option autoImplicit false
set_option maxRecDepth 100000
set_option linter.unusedSimpArgs false
set_option linter.unusedVariables false
set_option linter.unusedSectionVars false
namespace Go.Ev
variable [MT]

/-! ### Primitives that answer nothing; unions over depths -/
theorem prim_empty {α β δ : Type} [Enc α] [Enc β] [Enc δ] {q : α → β → Prop} {F : α → β → δ} (hq : ∀ a b, ¬ q a b) (a : List AV) (h : H) : primVal (ofRel (Rel2 q F)) a h = none := by
  unfold primVal
  cases hv : ofRel (Rel2 q F) a with
  | none => rfl
  | some v => obtain ⟨x, y, _, h2, _⟩ := ofRel_some hv; exact absurd h2 (hq x y)
theorem prim_empty1 {α δ : Type} [Enc α] [Enc δ] {q : α → Prop} {F : α → δ} (hq : ∀ a, ¬ q a) (a : List AV) (h : H) : primVal (ofRel (Rel1 q F)) a h = none := by
  unfold primVal
  cases hv : ofRel (Rel1 q F) a with
  | none => rfl
  | some v => obtain ⟨x, _, h2, _⟩ := ofRel_some hv; exact absurd h2 (hq x)
theorem prim_empty3 {α β γ δ : Type} [Enc α] [Enc β] [Enc γ] [Enc δ] {q : α → β → γ → Prop} {F : α → β → γ → δ} (hq : ∀ a b c, ¬ q a b c) (a : List AV) (h : H) : primVal (ofRel (Rel3 q F)) a h = none := by
  unfold primVal
  cases hv : ofRel (Rel3 q F) a with
  | none => rfl
  | some v => obtain ⟨x, y, z, _, h2, _⟩ := ofRel_some hv; exact absurd h2 (hq x y z)
theorem union1 {α δ : Type} [Enc α] [Enc δ] {q : Nat → α → Prop} {q' : α → Prop} {F : α → δ} (hq : ∀ a, q' a → ∃ d, q d a) (a : List AV) (h : H) (r : AV × H) (hr : primVal (ofRel (Rel1 q' F)) a h = some r) : ∃ d, primVal (ofRel (Rel1 (q d) F)) a h = some r := by
  unfold primVal at hr
  cases hv : ofRel (Rel1 q' F) a with
  | none => rw [hv] at hr; simp at hr
  | some v =>
    rw [hv] at hr
    obtain ⟨x, h1, h2, h3⟩ := ofRel_some hv
    obtain ⟨d, hd⟩ := hq x h2
    refine ⟨d, ?_⟩
    unfold primVal
    rw [ofRel_of (R := Rel1 (q d) F) ⟨x, h1, hd, h3⟩ (fun u ⟨b, g1, _, g2⟩ => by
      obtain ⟨y, k, rfl, w1, w2⟩ : ∃ y k, a = y :: k ∧ y.wk 0 (Enc.enc x) ∧ AV.wks 0 k [] := by
        cases a with
        | nil => exact absurd (wks_iff.1 h1).1 (by simp)
        | cons y k => exact ⟨y, k, rfl, wks_cons.1 h1⟩
      rw [g2, h3, Enc.inj (wks_cons.1 g1).1 w1])]
    exact hr
theorem union2 {α β δ : Type} [Enc α] [Enc β] [Enc δ] {q : Nat → α → β → Prop} {q' : α → β → Prop} {F : α → β → δ} (hq : ∀ a b, q' a b → ∃ d, q d a b) (a : List AV) (h : H) (r : AV × H) (hr : primVal (ofRel (Rel2 q' F)) a h = some r) : ∃ d, primVal (ofRel (Rel2 (q d) F)) a h = some r := by
  unfold primVal at hr
  cases hv : ofRel (Rel2 q' F) a with
  | none => rw [hv] at hr; simp at hr
  | some v =>
    rw [hv] at hr
    obtain ⟨x, y, h1, h2, h3⟩ := ofRel_some hv
    obtain ⟨d, hd⟩ := hq x y h2
    refine ⟨d, ?_⟩
    unfold primVal
    rw [ofRel_of (R := Rel2 (q d) F) ⟨x, y, h1, hd, h3⟩ (fun u ⟨b, c, g1, _, g2⟩ => by
      match a, h1, g1 with
      | [u0, u1], h1, g1 =>
        obtain ⟨w1, w2⟩ := wks_cons.1 h1
        obtain ⟨w3, w4⟩ := wks_cons.1 g1
        rw [g2, h3, Enc.inj w3 w1, Enc.inj (wks1.1 w4) (wks1.1 w2)]
      | [], h1, _ => exact absurd (wks_iff.1 h1).1 (by simp)
      | [_], h1, _ => exact absurd (wks_iff.1 h1).1 (by simp)
      | _ :: _ :: _ :: _, h1, _ => exact absurd (wks_iff.1 h1).1 (by simp))]
    exact hr
theorem union3 {α β γ δ : Type} [Enc α] [Enc β] [Enc γ] [Enc δ] {q : Nat → α → β → γ → Prop} {q' : α → β → γ → Prop} {F : α → β → γ → δ} (hq : ∀ a b c, q' a b c → ∃ d, q d a b c) (a : List AV) (h : H) (r : AV × H) (hr : primVal (ofRel (Rel3 q' F)) a h = some r) : ∃ d, primVal (ofRel (Rel3 (q d) F)) a h = some r := by
  unfold primVal at hr
  cases hv : ofRel (Rel3 q' F) a with
  | none => rw [hv] at hr; simp at hr
  | some v =>
    rw [hv] at hr
    obtain ⟨x, y, z, h1, h2, h3⟩ := ofRel_some hv
    obtain ⟨d, hd⟩ := hq x y z h2
    refine ⟨d, ?_⟩
    unfold primVal
    rw [ofRel_of (R := Rel3 (q d) F) ⟨x, y, z, h1, hd, h3⟩ (fun u ⟨b, c, e, g1, _, g2⟩ => by
      match a, h1, g1 with
      | [u0, u1, u2], h1, g1 =>
        obtain ⟨w1, w2⟩ := wks_cons.1 h1
        obtain ⟨w3, w4⟩ := wks_cons.1 g1
        obtain ⟨w5, w6⟩ := wks_cons.1 w2
        obtain ⟨w7, w8⟩ := wks_cons.1 w4
        rw [g2, h3, Enc.inj w3 w1, Enc.inj w7 w5, Enc.inj (wks1.1 w8) (wks1.1 w6)]
      | [], h1, _ => exact absurd (wks_iff.1 h1).1 (by simp)
      | [_], h1, _ => exact absurd (wks_iff.1 h1).1 (by simp)
      | [_, _], h1, _ => exact absurd (wks_iff.1 h1).1 (by simp)
      | _ :: _ :: _ :: _ :: _, h1, _ => exact absurd (wks_iff.1 h1).1 (by simp))]
    exact hr
theorem bodyL_of {E : Env} {f : Nat} {fn : Func} {c : Code} {args : List AV} {h : H} {r : Option (AV × H)} (hp : E.prim f = none) (hf : E.fns f = some fn) (hb : fn.body = some c) (hl : Nat.ble args.length fn.ntmps = true) (he : evL E f args h = r) : bodyL E f fn c args h = r := by
  rw [← he, evL_fn E hp hf hb _ _ hl]; rfl
theorem wks_append {n : Nat} : ∀ {a b c d : List AV}, AV.wks n a b → AV.wks n c d → AV.wks n (a ++ c) (b ++ d)
  | [], b, c, d, h, k => by simp only [AV.wks] at h; subst h; exact k
  | x :: a, b, c, d, h, k => by
    simp only [AV.wks] at h
    obtain ⟨y, b', rfl, h1, h2⟩ := h
    exact wks_cons.2 ⟨h1, wks_append h2 k⟩

/-! ### A row of one's own, put together -/
def RowE (et sz : Nat) (h : H) (o : Own) (els : List AV) : Prop := (o = .full ∧ els = []) ∨ ∃ id, o = .ch id ∧ h.t.get id = some (.chain els.length et sz) ∧ id < h.nx
theorem RowE.ne {et sz : Nat} {h : H} {o : Own} {els : List AV} (r : RowE et sz h o els) {q : Nat} {cs : List AV} (hq : h.t.get q = some (.cells cs)) : o ≠ .ch q := by
  rcases r with ⟨rfl, _⟩ | ⟨id, rfl, hg, _⟩
  · simp
  · rintro ⟨⟩; rw [hq] at hg; cases hg
theorem RowE.mono {et sz : Nat} {h h2 : H} {o : Own} {els : List AV} (r : RowE et sz h o els) (hn : h.nx ≤ h2.nx) (hg : ∀ j, j < h.nx → h2.t.get j = h.t.get j) : RowE et sz h2 o els := by
  rcases r with e | ⟨id, e, hi, hid⟩
  · exact .inl e
  · exact .inr ⟨id, e, by rw [hg id hid]; exact hi, by omega⟩
theorem app_any {e sz byt : Nat} {h : H} {w : Own} {xs ys : List AV} (hsz : 0 < sz) (hb : 0 < byt) (sx : sizesAre sz xs = true) (sy : sizesAre sz ys = true) (oy : onesIn ys = true) (hl : (xs.length + ys.length) * byt ≤ 140737488355328) (r : RowE e sz h w xs) :
    ∃ w' h', evAppend e sz byt h (.sl w xs) ys = some (.sl w' (xs ++ ys), h') ∧ RowE e sz h' w' (xs ++ ys) ∧ h.nx ≤ h'.nx ∧ ∀ j, j < h.nx → w ≠ .ch j → h'.t.get j = h.t.get j := by
  have hc : (Nat.blt 0 sz && (Nat.blt 0 byt && (sizesAre sz ys && (onesIn ys && (sizesAre sz xs && Nat.ble ((xs.length + ys.length) * byt) 140737488355328))))) = true := by
    rw [sx, sy, oy, blt_nat.2 hsz, blt_nat.2 hb]
    have : Nat.ble ((xs.length + ys.length) * byt) 140737488355328 = true := by rw [Nat.ble_eq]; exact hl
    rw [this]; rfl
  unfold evAppend
  simp only [hc, cond_true]
  cases ys with
  | nil => exact ⟨w, h, by simp, by simpa using r, Nat.le_refl _, fun _ _ _ => rfl⟩
  | cons y l =>
    rcases r with ⟨rfl, rfl⟩ | ⟨id, rfl, hg, hi⟩
    · exact ⟨.ch h.nx, _, rfl, .inr ⟨_, rfl, by simp [H.new, T.get_set_ite], by simp [H.new]⟩, by simp [H.new], fun j hj _ => by simp only [H.new, T.get_set_ite]; rw [if_neg (by omega)]⟩
    · have hbq : (Nat.beq xs.length xs.length && (Nat.beq e e && Nat.beq sz sz)) = true := by simp
      refine ⟨.ch id, h.put id (.chain (xs.length + (y :: l).length) e sz), ?_, .inr ⟨_, rfl, by simp [H.put, T.get_set_ite], by simpa [H.put] using hi⟩, by simp [H.put], fun j hj hne => by
        have : j ≠ id := fun e => hne (by rw [e])
        simp only [H.put, T.get_set_ite]; rw [if_neg this]⟩
      simp only [hg, hbq, cond_true]
/-- The owner behind an append: the one ahead of it, or a new one. -/
theorem own_app {e sz byt : Nat} {h h' : H} {w w' : Own} {xs ys zs : List AV} (r : RowE e sz h w xs) (he : evAppend e sz byt h (.sl w xs) ys = some (.sl w' zs, h')) (j : Nat) (hj : w' = .ch j) : w = .ch j ∨ h.nx ≤ j := by
  subst hj
  unfold evAppend at he
  simp only at he
  cases hc : (Nat.blt 0 sz && (Nat.blt 0 byt && (sizesAre sz ys && (onesIn ys && (sizesAre sz xs && Nat.ble ((xs.length + ys.length) * byt) 140737488355328))))) with
  | false => rw [hc] at he; simp at he
  | true =>
    rw [hc] at he
    simp only [cond_true] at he
    cases ys with
    | nil =>
      simp only [Option.some.injEq, Prod.mk.injEq, AV.sl.injEq] at he
      exact .inl he.1.1
    | cons y l =>
      rcases r with ⟨rfl, _⟩ | ⟨id, rfl, hg, _⟩
      · simp only [Option.some.injEq, Prod.mk.injEq, AV.sl.injEq, Own.ch.injEq] at he
        exact .inr (by omega)
      · simp only [hg] at he
        cases hd : (Nat.beq xs.length xs.length && (Nat.beq e e && Nat.beq sz sz)) with
        | false => rw [hd] at he; simp at he
        | true =>
          rw [hd] at he
          simp only [cond_true, Option.some.injEq, Prod.mk.injEq, AV.sl.injEq, Own.ch.injEq] at he
          exact .inl (by rw [he.1.1])
theorem natsBeq_iff {a b : List Nat} : natsBeq a b = true ↔ a = b := by rw [natsBeq_eq]; simp
theorem intBeq_iff {a b : Int} : intBeq a b = true ↔ a = b := by cases a <;> cases b <;> simp [intBeq] <;> omega
theorem wrI {a : Int} (h1 : -9223372036854775808 ≤ a) (h2 : a < 9223372036854775808) : wr .i64 a = a := by haveI : Inhabited KA0 := ⟨⟨[]⟩⟩; rw [wr_eq]; exact wrap_i64_in h1 h2

/-! ### Expressions -/
inductive Nd where
  | mk (op name arg : List Nat) (n at_ : Int) (kids : List Nd)
namespace Nd
def op : Nd → List Nat | .mk o _ _ _ _ _ => o
def name : Nd → List Nat | .mk _ o _ _ _ _ => o
def arg : Nd → List Nat | .mk _ _ o _ _ _ => o
def n : Nd → Int | .mk _ _ _ n _ _ => n
def at_ : Nd → Int | .mk _ _ _ _ n _ => n
def kids : Nd → List Nd | .mk _ _ _ _ _ k => k
mutual
def av : Nd → AV
  | .mk op name arg n a ks => .agg [.str op, .str name, .str arg, .int .i64 n, .int .i64 a, .sl .no (avs ks)]
def avs : List Nd → List AV
  | [] => []
  | t :: l => av t :: avs l
end
theorem avs_map : ∀ l : List Nd, avs l = l.map av
  | [] => rfl
  | t :: l => by rw [avs, avs_map l]; rfl
mutual
theorem av_inj : ∀ {a b : Nd} {x : AV}, x.wk 0 a.av → x.wk 0 b.av → a = b
  | .mk o1 p1 q1 n1 m1 k1, .mk o2 p2 q2 n2 m2 k2, x, h1, h2 => by
    simp only [av] at h1 h2
    cases x with
    | ptr p => cases p <;> simp [AV.wk] at h1
    | map p => cases p <;> simp [AV.wk] at h1
    | agg cs =>
      simp only [AV.wk, AV.agg.injEq] at h1 h2
      obtain ⟨ds, rfl, h1⟩ := h1
      obtain ⟨es, rfl, h2⟩ := h2
      match cs, h1, h2 with
      | [c0, c1, c2, c3, c4, c5], h1, h2 =>
        simp only [wks_cons] at h1 h2
        obtain ⟨a1, a2, a3, a4, a5, a6, _⟩ := h1
        obtain ⟨b1, b2, b3, b4, b5, b6, _⟩ := h2
        have e1 : o1 = o2 := congrArg Str.s (Enc.inj (α := Str) (a := ⟨o1⟩) (b := ⟨o2⟩) a1 b1)
        have e2 : p1 = p2 := congrArg Str.s (Enc.inj (α := Str) (a := ⟨p1⟩) (b := ⟨p2⟩) a2 b2)
        have e3 : q1 = q2 := congrArg Str.s (Enc.inj (α := Str) (a := ⟨q1⟩) (b := ⟨q2⟩) a3 b3)
        have e4 : n1 = n2 := Enc.inj (α := Int) a4 b4
        have e5 : m1 = m2 := Enc.inj (α := Int) a5 b5
        cases c5 with
        | ptr p => cases p <;> simp [AV.wk] at a6
        | map p => cases p <;> simp [AV.wk] at a6
        | sl o els =>
          simp only [AV.wk, AV.sl.injEq] at a6 b6
          obtain ⟨p, ds, ⟨_, rfl⟩, _, a6⟩ := a6
          obtain ⟨q, es, ⟨_, rfl⟩, _, b6⟩ := b6
          rw [e1, e2, e3, e4, e5, avs_inj a6 b6]
        | _ => simp [AV.wk] at a6
      | [], h1, _ => exact absurd (wks_iff.1 h1).1 (by simp)
      | [_], h1, _ => exact absurd (wks_iff.1 h1).1 (by simp)
      | [_, _], h1, _ => exact absurd (wks_iff.1 h1).1 (by simp)
      | [_, _, _], h1, _ => exact absurd (wks_iff.1 h1).1 (by simp)
      | [_, _, _, _], h1, _ => exact absurd (wks_iff.1 h1).1 (by simp)
      | [_, _, _, _, _], h1, _ => exact absurd (wks_iff.1 h1).1 (by simp)
      | _ :: _ :: _ :: _ :: _ :: _ :: _ :: _, h1, _ => exact absurd (wks_iff.1 h1).1 (by simp)
    | _ => simp [AV.wk] at h1
theorem avs_inj : ∀ {a b : List Nd} {x : List AV}, AV.wks 0 x (avs a) → AV.wks 0 x (avs b) → a = b
  | [], [], _, _, _ => rfl
  | [], _ :: _, x, h1, h2 => by
    have e1 := (wks_iff.1 h1).1
    have e2 := (wks_iff.1 h2).1
    simp [avs] at e1 e2
    rw [e1] at e2; simp at e2
  | _ :: _, [], x, h1, h2 => by
    have e1 := (wks_iff.1 h1).1
    have e2 := (wks_iff.1 h2).1
    simp [avs] at e1 e2
    rw [e2] at e1; simp at e1
  | a :: l, b :: m, x, h1, h2 => by
    cases x with
    | nil => simp [AV.wks, avs] at h1
    | cons y x =>
      simp only [avs, wks_cons] at h1 h2
      rw [av_inj h1.1 h2.1, avs_inj h1.2 h2.2]
end
mutual
theorem av_bare (n : Nat) : ∀ t : Nd, t.av.wk n t.av
  | .mk o p q m k ks => by
    simp only [av]
    rw [wk_agg]
    simp only [wks_cons, wk_sl]
    exact ⟨by simp [AV.wk], by simp [AV.wk], by simp [AV.wk], by simp [AV.wk], by simp [AV.wk], ⟨own_no, avs_bare n ks⟩, wks_nil⟩
theorem avs_bare (n : Nat) : ∀ l : List Nd, AV.wks n (avs l) (avs l)
  | [] => by simp [AV.wks, avs]
  | t :: l => ⟨_, _, rfl, av_bare n t, avs_bare n l⟩
end
instance : Enc Nd := ⟨av, av_inj, av_bare⟩
theorem cells_ (t : Nd) : t.av = .agg [.str t.op, .str t.name, .str t.arg, .int .i64 t.n, .int .i64 t.at_, .sl .no (avs t.kids)] := by cases t; rfl
theorem avs_len (l : List Nd) : (avs l).length = l.length := by rw [avs_map, List.length_map]
theorem avs_get {l : List Nd} {i : Nat} {t : Nd} (h : l[i]? = some t) : (avs l)[i]? = some t.av := by rw [avs_map, List.getElem?_map, h]; rfl
mutual
def dep : Nd → Nat
  | .mk _ _ _ _ _ ks => deps ks + 1
def deps : List Nd → Nat
  | [] => 0
  | t :: l => max (dep t) (deps l)
end
theorem dep_pos (t : Nd) : 1 ≤ t.dep := by cases t; simp [dep]
theorem dep_mem : ∀ {l : List Nd} {t : Nd}, t ∈ l → t.dep ≤ deps l
  | a :: l, t, h => by
    rcases List.mem_cons.1 h with rfl | h
    · simp only [deps]; omega
    · have := dep_mem h; simp only [deps]; omega
mutual
def size : Nd → Nat
  | .mk _ _ _ _ _ ks => sizes ks + 1
def sizes : List Nd → Nat
  | [] => 0
  | t :: l => size t + sizes l
end
theorem size_mem : ∀ {l : List Nd} {t : Nd}, t ∈ l → t.size ≤ sizes l
  | a :: l, t, h => by
    rcases List.mem_cons.1 h with rfl | h
    · exact Nat.le_add_right ..
    · exact Nat.le_trans (size_mem h) (Nat.le_add_left ..)
/-- What may be handed in: strings of a length that a machine has, numbers of 64 bits. -/
def okS (s : List Nat) : Prop := s.length ≤ 140737488351232 ∧ ∀ x ∈ s, x < 256
mutual
def fit : Nd → Prop
  | .mk o p q n a ks => okS o ∧ okS p ∧ okS q ∧ (-9223372036854775808 ≤ n ∧ n ≤ 9223372036854775807) ∧ (-9223372036854775808 ≤ a ∧ a ≤ 9223372036854775807) ∧ ks.length ≤ 9223372036854775807 ∧ fits ks
def fits : List Nd → Prop
  | [] => True
  | t :: l => fit t ∧ fits l
end
theorem fits_mem : ∀ {l : List Nd}, fits l ↔ ∀ t ∈ l, fit t
  | [] => by simp [fits]
  | t :: l => by simp [fits, fits_mem (l := l)]
theorem fit_iff (t : Nd) : fit t ↔ okS t.op ∧ okS t.name ∧ okS t.arg ∧ (-9223372036854775808 ≤ t.n ∧ t.n ≤ 9223372036854775807) ∧ (-9223372036854775808 ≤ t.at_ ∧ t.at_ ≤ 9223372036854775807) ∧ t.kids.length ≤ 9223372036854775807 ∧ fits t.kids := by cases t; rfl
theorem dep_eq (t : Nd) : t.dep = deps t.kids + 1 := by cases t; rfl
theorem size_eq (t : Nd) : t.size = sizes t.kids + 1 := by cases t; rfl
end Nd
end Go.Ev
/- A body's run as a call that keeps what was; rows of strings. -/
namespace Go.Ev
variable [MT]
section
variable [Inhabited KA0] {P : Program} {E : Env}
theorem body_direct (hE : EnvOk P E) {f : Nat} {fn : Func} {c : Code} (hf : E.fns f = some fn) (hb : fn.body = some c) {args : List AV} (hn : Nat.ble args.length fn.ntmps = true) {v v' : AV} {h1 : H} (hbd : bodyL E f fn c args ⟨.e, 0⟩ = some (v', h1)) (hw : v'.wk 0 v)
    (G : Gh) (w : World) (A : Array Value) (I : Inv (Gp G) w ⟨.e, 0⟩) (hA : VRs (Gp G) w A.toList args) : Calls P f A w fun e w' => ∃ V, e = .returned V ∧ Old w w' ∧ ((∀ b, w.heap.size ≤ b → G.fr b = none) → VR G w' V v) := by
  refine ((bodyL_sim hE hf hb hn hbd).2 (Gp G) w A I hA).mono ?_
  rintro e w' ⟨G', V, rfl, hV, hI, hX⟩
  have hh : ∀ j, j < w.heap.size → w'.heap[j]? = w.heap[j]? := fun j hj => (hX.own j hj rfl).1
  refine ⟨V, rfl, ⟨hX.os, hX.tape, hX.output, hX.size, hh⟩, fun hG => VR.wk (n := 0) (G := G') (fun b o v s => ⟨s.1, ?_⟩) (fun id b hi => by omega) (fun id m v hi => by omega) hV hw⟩
  by_cases hbs : b < w.heap.size
  · have := (hX.own b hbs rfl).2.1
    have s2 := s.2
    rw [this] at s2
    exact s2
  · exact .inl (hG b (by omega))
end
/-! ### Rows of strings -/
def strs (L : List Str) : List AV := L.map fun t => .str t.s
theorem strs_enc (L : List Str) : (Enc.enc L : AV) = .sl .no (strs L) := rfl
theorem strs_len (L : List Str) : (strs L).length = L.length := List.length_map ..
theorem strs_get {L : List Str} {i : Nat} {t : Str} (h : L[i]? = some t) : (strs L)[i]? = some (.str t.s) := by unfold strs; rw [List.getElem?_map, h]; rfl
theorem strs_append (a b : List Str) : strs a ++ strs b = strs (a ++ b) := by simp [strs]
theorem strs_sizes : ∀ L : List Str, sizesAre 1 (strs L) = true
  | [] => rfl
  | t :: l => by have := strs_sizes l; simp only [strs, List.map_cons, sizesAre, Bool.and_eq_true] at this ⊢; exact ⟨rfl, this⟩
theorem strs_ones : ∀ L : List Str, onesIn (strs L) = true
  | [] => rfl
  | t :: l => by have := strs_ones l; simp only [strs, List.map_cons, onesIn, Bool.and_eq_true] at this ⊢; exact ⟨rfl, this⟩
theorem strs_bare (n : Nat) (o : Own) (L : List Str) : (AV.sl o (strs L)).wk n (.sl .no (strs L)) := wk_sl.2 ⟨own_no, (wk_sl.1 (Enc.bare n L)).2⟩
theorem natsBeq_comm (a b : List Nat) : natsBeq a b = natsBeq b a := by
  rw [Bool.eq_iff_iff, natsBeq_iff, natsBeq_iff]
  exact eq_comm
def hasS (L : List Str) (v : List Nat) : Bool := L.any fun t => natsBeq v t.s
theorem hasS_iff {L : List Str} {v : List Nat} : hasS L v = true ↔ ⟨v⟩ ∈ L := by
  simp only [hasS, List.any_eq_true, natsBeq_iff]
  constructor
  · rintro ⟨⟨t⟩, h1, h2⟩; simp only at h2; subst h2; exact h1
  · intro h; exact ⟨_, h, rfl⟩
end Go.Ev
/- The machine's equations for simp, as one theorem. -/
namespace Go.Ev
variable [MT] [Inhabited KA0]
theorem EVT : (∀ (E : Env) (f n : Nat) (tm : Tm) (h : H), cdL E f n .skip tm h = some (.normal, tm, h)) ∧
  (∀ (E : Env) (f n : Nat) (tm : Tm) (h : H) (l : Nat), cdL E f n (.label l) tm h = some (.normal, tm, h)) ∧
  (∀ (E : Env) (f n : Nat) (tm : Tm) (h : H) (id : Nat), cdL E f n (.exit id) tm h = some (.exit id, tm, h)) ∧
  (∀ (E : Env) (f n : Nat) (tm : Tm) (h : H), cdL E f n .ret tm h = some (.ret, tm, h)) ∧
  (∀ (E : Env) (f n : Nat) (tm : Tm) (h : H) (id : Nat) (os : Array Oper), cdL E f n (.region id os false) tm h = match evSeq (evL E) E.ty n os os.toList tm h with | none => none | some (tm', h') => some (.normal, tm', h')) ∧
  (∀ (E : Env) (f n : Nat) (tm : Tm) (h : H) (id : Nat) (os : Array Oper), cdL E f n (.region id os true) tm h = match E.plan f id with | none => (match E.alt f id with | none => none | some al => match evAlt (evL E) E.ty n os al tm h with | none => none | some (tm', h') => some (.normal, tm', h')) | some pl => match evPlan (evL E) E.ty n os pl tm h with | none => none | some (tm', h') => some (.normal, tm', h')) ∧
  (∀ (E : Env) (f n : Nat) (tm : Tm) (h : H) (a b : Code), cdL E f n (.seq a b) tm h = match cdL E f n a tm h with | none => none | some (.normal, tm', h') => cdL E f n b tm' h' | some r => some r) ∧
  (∀ (E : Env) (f n : Nat) (tm : Tm) (h : H) (c : Operand) (a b : Code), cdL E f n (.cond c a b) tm h = match val tm c with | some (.bool t) => bif t then cdL E f n a tm h else cdL E f n b tm h | _ => none) ∧
  (∀ (E : Env) (f n : Nat) (tm : Tm) (h : H) (id : Nat) (b : Code), cdL E f n (.block id b) tm h = match cdL E f n b tm h with | none => none | some (.exit j, tm', h') => some (bif Nat.beq j id then .normal else .exit j, tm', h') | some r => some r) ∧
  (∀ (α : Type) (k : Nat), (T.e : T α).get k = none) ∧
  (∀ (α : Type) (t : T α) (k j : Nat) (v : α), (t.set k v).get j = if j = k then some v else t.get j) ∧
  (∀ a b : Nat, Nat.blt a b = decide (a < b)) ∧
  (∀ a b : Nat, Nat.ble a b = decide (a ≤ b)) ∧
  (∀ a b : Nat, Nat.beq a b = decide (a = b)) ∧
  (∀ x : AV, AV.beq x x = true) :=
  ⟨@cdL_skip _, @cdL_label _, @cdL_exit _, @cdL_ret _, @cdL_region _, @cdL_drawn _, @cdL_seq _, @cdL_cond _, @cdL_block _, fun _ => T.get_e, fun _ => T.get_set_ite, blt_dec, ble_dec, beq_dec, AV.beq_refl⟩
theorem EVT0 : (∀ (α : Type) (k : Nat), (T.e : T α).get k = none) ∧
  (∀ (α : Type) (t : T α) (k j : Nat) (v : α), (t.set k v).get j = if j = k then some v else t.get j) ∧
  (∀ a b : Nat, Nat.blt a b = decide (a < b)) ∧ (∀ a b : Nat, Nat.ble a b = decide (a ≤ b)) ∧ (∀ a b : Nat, Nat.beq a b = decide (a = b)) ∧ (∀ x : AV, AV.beq x x = true) :=
  ⟨fun _ => T.get_e, fun _ => T.get_set_ite, blt_dec, ble_dec, beq_dec, AV.beq_refl⟩
end Go.Ev
