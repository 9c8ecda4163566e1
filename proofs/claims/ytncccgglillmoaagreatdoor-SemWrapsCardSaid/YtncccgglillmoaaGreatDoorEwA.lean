/- Bodies, and what of a call's heap may be forgotten. -/
import Derived.Test.YtncccgglillmoaaGreatDoorEvZ
set_option autoImplicit false
set_option linter.unusedSectionVars false
set_option linter.unusedVariables false
set_option linter.unusedSimpArgs false
namespace Go.Ev
variable [MT]

/-- A function's body, whatever its primitive says. -/
noncomputable def bodyL (E : Env) (f : Nat) (fn : Func) (c : Code) (args : List AV) (h : H) : Option (AV × H) :=
  endL E.ty fn.results.toList (cdL E f fn.ntmps c (setArgs 0 args .e) h)

section
variable [Inhabited KA0] {P : Program} {E : Env}
theorem bodyL_sim (hE : EnvOk P E) {f : Nat} {fn : Func} {c : Code} {args : List AV} {h h' : H} {v : AV} (hf : E.fns f = some fn) (hb : fn.body = some c) (hn : Nat.ble args.length fn.ntmps = true)
    (he : bodyL E f fn c args h = some (v, h')) :
    (∃ fn, P.funcs[f]? = some fn ∧ (fn.name == "runtime.NumGoroutine") = false ∧ fn.body.isNone = false) ∧
    ∀ G w (A : Array Value), Inv G w h → VRs G w A.toList args → Calls P f A w (Post G w h v h') := by
  unfold bodyL at he
  cases hc : cdL E f fn.ntmps c (setArgs 0 args .e) h with
  | none => rw [hc] at he; simp [endL] at he
  | some r =>
    rw [hc] at he
    obtain ⟨k, hk⟩ := (cdL_iff E f fn.ntmps _ h).1 hc
    exact body_sim hE (fn_sim hE k) hf hb hn (by rw [hk]; exact he)
end

/-! ### Values, with less known of their owners -/
def Own.wk (n : Nat) (o p : Own) : Prop := p = .no ∨ (p = o ∧ ∀ id, o = .ch id → id < n)
mutual
def AV.wk (n : Nat) : AV → AV → Prop
  | .ptr (some (id, o)), y => id < n ∧ y = .ptr (some (id, o))
  | .vp cs, y => ∃ ds, y = .vp ds ∧ AV.wks n cs ds
  | .sl o els, y => ∃ p ds, y = .sl p ds ∧ o.wk n p ∧ AV.wks n els ds
  | .map (some id), y => id < n ∧ y = .map (some id)
  | .rs id l o, y => id < n ∧ y = .rs id l o
  | .rp id l o, y => id < n ∧ y = .rp id l o
  | .fn f a b, y => ∃ c d, y = .fn f c d ∧ AV.wks n a c ∧ AV.wks n b d
  | .iface t v, y => ∃ u, y = .iface t u ∧ AV.wk n v u
  | .agg cs, y => ∃ ds, y = .agg ds ∧ AV.wks n cs ds
  | .tup cs, y => ∃ ds, y = .tup ds ∧ AV.wks n cs ds
  | x, y => y = x
def AV.wks (n : Nat) : List AV → List AV → Prop
  | [], m => m = []
  | a :: l, m => ∃ b k, m = b :: k ∧ AV.wk n a b ∧ AV.wks n l k
end
theorem wks_iff {n : Nat} : ∀ {l m : List AV}, AV.wks n l m ↔ l.length = m.length ∧ ∀ (i : Nat) x y, l[i]? = some x → m[i]? = some y → x.wk n y
  | [], m => by
    simp only [AV.wks]
    constructor
    · rintro rfl; exact ⟨rfl, fun i x y h => by simp at h⟩
    · rintro ⟨h, _⟩; exact List.eq_nil_of_length_eq_zero h.symm
  | a :: l, m => by
    simp only [AV.wks]
    constructor
    · rintro ⟨b, k, rfl, h1, h2⟩
      obtain ⟨h3, h4⟩ := wks_iff.1 h2
      refine ⟨by simp [h3], fun i x y hx hy => ?_⟩
      cases i with
      | zero => simp at hx hy; subst hx; subst hy; exact h1
      | succ i => exact h4 i x y (by simpa using hx) (by simpa using hy)
    · rintro ⟨h1, h2⟩
      cases m with
      | nil => simp at h1
      | cons b k => exact ⟨b, k, rfl, h2 0 a b rfl rfl, wks_iff.2 ⟨by simpa using h1, fun i x y hx hy => h2 (i + 1) x y (by simpa using hx) (by simpa using hy)⟩⟩
theorem wk_cells {n : Nat} {x y : AV} (h : x.wk n y) : AV.wks n x.cells y.cells := by
  cases x with
  | agg cs =>
    simp only [AV.wk] at h
    obtain ⟨ds, rfl, h⟩ := h
    exact h
  | ptr a =>
    have : y.cells = [y] := by
      cases a with
      | none => simp only [AV.wk] at h; subst h; rfl
      | some p => simp only [AV.wk] at h; rw [h.2]; rfl
    rw [this]
    exact ⟨y, [], rfl, h, rfl⟩
  | map r =>
    have : y.cells = [y] := by
      cases r with
      | none => simp only [AV.wk] at h; subst h; rfl
      | some p => simp only [AV.wk] at h; rw [h.2]; rfl
    rw [this]
    exact ⟨y, [], rfl, h, rfl⟩
  | vp cs => have h' := h; simp only [AV.wk] at h'; obtain ⟨ds, rfl, _⟩ := h'; exact ⟨_, [], rfl, h, rfl⟩
  | sl o els => have h' := h; simp only [AV.wk] at h'; obtain ⟨p, ds, rfl, _⟩ := h'; exact ⟨_, [], rfl, h, rfl⟩
  | fn f a b => have h' := h; simp only [AV.wk] at h'; obtain ⟨p, ds, rfl, _⟩ := h'; exact ⟨_, [], rfl, h, rfl⟩
  | iface t v => have h' := h; simp only [AV.wk] at h'; obtain ⟨u, rfl, _⟩ := h'; exact ⟨_, [], rfl, h, rfl⟩
  | tup cs => have h' := h; simp only [AV.wk] at h'; obtain ⟨ds, rfl, _⟩ := h'; exact ⟨_, [], rfl, h, rfl⟩
  | rs id l o => have h' := h; simp only [AV.wk] at h'; obtain ⟨_, rfl⟩ := h'; exact ⟨_, [], rfl, h, rfl⟩
  | rp id l o => have h' := h; simp only [AV.wk] at h'; obtain ⟨_, rfl⟩ := h'; exact ⟨_, [], rfl, h, rfl⟩
  | bool b => have h' := h; simp only [AV.wk] at h'; subst h'; exact ⟨_, [], rfl, h, rfl⟩
  | int k m => have h' := h; simp only [AV.wk] at h'; subst h'; exact ⟨_, [], rfl, h, rfl⟩
  | str s => have h' := h; simp only [AV.wk] at h'; subst h'; exact ⟨_, [], rfl, h, rfl⟩
  | nilFn => have h' := h; simp only [AV.wk] at h'; subst h'; exact ⟨_, [], rfl, h, rfl⟩
  | nilIface => have h' := h; simp only [AV.wk] at h'; subst h'; exact ⟨_, [], rfl, h, rfl⟩

section
variable [Inhabited KA0] {G G' : Gh} {w w' : World} {n : Nat}
theorem OwnR.wk (hc : ∀ id m v, id < n → G.cv id = some (m, v) → G'.cv id = some (m, v)) {o p : Own} {v : Value} {len cap : Nat} (hw : o.wk n p) (r : OwnR G o v len cap) : OwnR G' p v len cap := by
  rcases hw with rfl | ⟨rfl, hid⟩
  · trivial
  · cases p with
    | no => trivial
    | full => exact r
    | ch id =>
      obtain ⟨m, v', h1, h2⟩ := r
      exact ⟨m, v', hc id m v' (hid id rfl) h1, h2⟩
theorem RowR.wk (hc : ∀ id m v, id < n → G.cv id = some (m, v) → G'.cv id = some (m, v)) {id len b : Nat} {p : Nat → Prop} (hi : id < n) (r : RowR G id len b p) : RowR G' id len b p := by
  obtain ⟨m, v', h1, h2⟩ := r
  exact ⟨m, v', hc id m v' hi h1, h2⟩
theorem VR.wk (hS : ∀ b o v, Stb G w b o v → Stb G' w' b o v) (hρ : ∀ id b, id < n → G.ρ id = some b → G'.ρ id = some b) (hc : ∀ id m v, id < n → G.cv id = some (m, v) → G'.cv id = some (m, v)) {V : Value} {x : AV} (r : VR G w V x) :
    ∀ {y : AV}, x.wk n y → VR G' w' V y := by
  induction r with
  | bool b => intro y h; simp only [AV.wk] at h; subst h; exact .bool b
  | int k m => intro y h; simp only [AV.wk] at h; subst h; exact .int k m
  | str s => intro y h; simp only [AV.wk] at h; subst h; exact .str s
  | ptr0 => intro y h; simp only [AV.wk] at h; subst h; exact .ptr0
  | ptr id b off h0 => intro y h; simp only [AV.wk] at h; obtain ⟨h1, rfl⟩ := h; exact .ptr id b off (hρ id b h1 h0)
  | vp b off cs f h1 h2 ih =>
    intro y h
    simp only [AV.wk] at h
    obtain ⟨ds, rfl, h⟩ := h
    obtain ⟨hl, he⟩ := wks_iff.1 h
    refine .vp b off ds f (fun j hj => hS _ _ _ (h1 j (by omega))) (fun j y hy => ?_)
    have hj : j < cs.length := by have := getElem?_lt hy; omega
    exact ih j cs[j] (List.getElem?_eq_getElem hj) (he j _ y (List.getElem?_eq_getElem hj) hy)
  | sl0 A cap o hn ho =>
    intro y h
    simp only [AV.wk] at h
    obtain ⟨p, ds, rfl, hw, h⟩ := h
    simp only [AV.wks] at h
    subst h
    exact .sl0 A cap p hn (OwnR.wk hc hw ho)
  | sl b off len cap s o els f hl hcap hs h1 h2 ho ih =>
    intro y h
    simp only [AV.wk] at h
    obtain ⟨p, ds, rfl, hw, h⟩ := h
    obtain ⟨hl', he⟩ := wks_iff.1 h
    refine .sl b off len cap s p ds f (by omega) hcap (fun x hx => ?_) (fun i j hi hj => hS _ _ _ (h1 i j hi hj)) (fun i j x z hx hz => ?_) (OwnR.wk hc hw ho)
    · obtain ⟨i, hi, rfl⟩ := List.mem_iff_getElem.1 hx
      have hi' : i < els.length := by omega
      have := (wks_iff.1 (wk_cells (he i els[i] ds[i] (List.getElem?_eq_getElem hi') (List.getElem?_eq_getElem hi)))).1
      rw [← this]
      exact hs _ (List.getElem_mem hi')
    · have hi : i < els.length := by have := getElem?_lt hx; omega
      obtain ⟨q1, q2⟩ := wks_iff.1 (wk_cells (he i els[i] x (List.getElem?_eq_getElem hi) hx))
      have hj : j < els[i].cells.length := by have := getElem?_lt hz; omega
      exact ih i j els[i] els[i].cells[j] (List.getElem?_eq_getElem hi) (List.getElem?_eq_getElem hj) (q2 j _ z (List.getElem?_eq_getElem hj) hz)
  | map0 => intro y h; simp only [AV.wk] at h; subst h; exact .map0
  | map id b h0 => intro y h; simp only [AV.wk] at h; obtain ⟨h1, rfl⟩ := h; exact .map id b (hρ id b h1 h0)
  | rs id len b cap own hcap h0 => intro y h; simp only [AV.wk] at h; obtain ⟨h1, rfl⟩ := h; exact .rs id len b cap own hcap (h0.wk hc h1)
  | rp id len off b h0 => intro y h; simp only [AV.wk] at h; obtain ⟨h1, rfl⟩ := h; exact .rp id len off b (h0.wk hc h1)
  | fn f a b c d ha hb h1 h2 ih1 ih2 =>
    intro y h
    simp only [AV.wk] at h
    obtain ⟨c', d', rfl, q1, q2⟩ := h
    obtain ⟨l1, e1⟩ := wks_iff.1 q1
    obtain ⟨l2, e2⟩ := wks_iff.1 q2
    refine .fn f a b c' d' (by omega) (by omega) (fun i v x hv hx => ?_) (fun i v x hv hx => ?_)
    · have hi : i < c.length := by have := getElem?_lt hx; omega
      exact ih1 i v c[i] hv (List.getElem?_eq_getElem hi) (e1 i _ x (List.getElem?_eq_getElem hi) hx)
    · have hi : i < d.length := by have := getElem?_lt hx; omega
      exact ih2 i v d[i] hv (List.getElem?_eq_getElem hi) (e2 i _ x (List.getElem?_eq_getElem hi) hx)
  | nilFn => intro y h; simp only [AV.wk] at h; subst h; exact .nilFn
  | iface t v x h0 ih => intro y h; simp only [AV.wk] at h; obtain ⟨u, rfl, h⟩ := h; exact .iface t v u (ih h)
  | nilIface => intro y h; simp only [AV.wk] at h; subst h; exact .nilIface
  | agg a c ha h1 ih =>
    intro y h
    simp only [AV.wk] at h
    obtain ⟨ds, rfl, h⟩ := h
    obtain ⟨hl, he⟩ := wks_iff.1 h
    refine .agg a ds (by omega) (fun i v x hv hx => ?_)
    have hi : i < c.length := by have := getElem?_lt hx; omega
    exact ih i v c[i] hv (List.getElem?_eq_getElem hi) (he i _ x (List.getElem?_eq_getElem hi) hx)
  | tup a c ha h1 ih =>
    intro y h
    simp only [AV.wk] at h
    obtain ⟨ds, rfl, h⟩ := h
    obtain ⟨hl, he⟩ := wks_iff.1 h
    refine .tup a ds (by omega) (fun i v x hv hx => ?_)
    have hi : i < c.length := by have := getElem?_lt hx; omega
    exact ih i v c[i] hv (List.getElem?_eq_getElem hi) (he i _ x (List.getElem?_eq_getElem hi) hx)
theorem VRs.wk (hS : ∀ b o v, Stb G w b o v → Stb G' w' b o v) (hρ : ∀ id b, id < n → G.ρ id = some b → G'.ρ id = some b) (hc : ∀ id m v, id < n → G.cv id = some (m, v) → G'.cv id = some (m, v)) {V : List Value} {x y : List AV} (r : VRs G w V x) (h : AV.wks n x y) : VRs G' w' V y := by
  obtain ⟨hl, he⟩ := wks_iff.1 h
  refine ⟨by rw [r.1, hl], fun i v z hv hz => ?_⟩
  have hi : i < x.length := by have := getElem?_lt hz; omega
  exact VR.wk hS hρ hc (r.2 i v x[i] hv (List.getElem?_eq_getElem hi)) (he i _ z (List.getElem?_eq_getElem hi) hz)
end

/-! ### A heap cut down to what was there before -/
def Obj.wk (n : Nat) : Obj → Obj → Prop
  | .cells cs, o => ∃ ds, o = .cells ds ∧ AV.wks n cs ds
  | .map es, o => ∃ fs, o = .map fs ∧ es.length = fs.length ∧ ∀ (i : Nat) k x k' x', es[i]? = some (k, x) → fs[i]? = some (k', x') → k.wk n k' ∧ x.wk n x'
  | .chain a b c, o => o = .chain a b c
  | .row a b c cs, o => ∃ ds, o = .row a b c ds ∧ AV.wks n cs ds
structure Keep (h h1 hk : H) : Prop where
  nx : hk.nx = h.nx
  top : ∀ id o, hk.t.get id = some o → id < h.nx ∨ ∃ o', h.t.get id = some o'
  obj : ∀ id, id < h.nx → (hk.t.get id = h.t.get id ∧ h1.t.get id = h.t.get id) ∨ ∃ o o', h1.t.get id = some o ∧ hk.t.get id = some o' ∧ o.wk h.nx o' ∧ (h.t.get id = some o → o' = o)
theorem Keep.same {h h1 : H} (he : ∀ id, id < h.nx → h1.t.get id = h.t.get id) : Keep h h1 h :=
  ⟨rfl, fun id o ho => .inr ⟨o, ho⟩, fun id hi => .inl ⟨rfl, he id hi⟩⟩
def Gh.cut (n : Nat) (G : Gh) : Gh :=
  ⟨fun id => if id < n then G.ρ id else none, fun id => if id < n then G.cv id else none,
   fun b => match G.ow b with | some id => if id < n then G.fr b else none | none => G.fr b,
   fun b => match G.ow b with | some id => if id < n then some id else none | none => none, G.base⟩

section
variable [Inhabited KA0] {G G1 : Gh} {w w1 : World} {h h1 hk : H}
theorem cut_fr {n : Nat} {G : Gh} {b k : Nat} (hf : (G.cut n).fr b = some k) : G.fr b = some k := by
  simp only [Gh.cut] at hf
  split at hf
  · split at hf
    · exact hf
    · simp at hf
  · exact hf
theorem cut_none {n : Nat} {G : Gh} {b : Nat} (hf : G.fr b = none) : (G.cut n).fr b = none := by
  cases hc : (G.cut n).fr b with
  | none => rfl
  | some k => rw [cut_fr hc] at hf; simp at hf
theorem cut_fr' {n : Nat} {G : Gh} {b : Nat} : (G.cut n).fr b = none ∨ (G.cut n).fr b = G.fr b := by
  simp only [Gh.cut]
  split
  · split
    · exact .inr rfl
    · exact .inl rfl
  · exact .inr rfl
theorem cut_stb {n : Nat} {b o : Nat} {v : Value} (s : Stb G w b o v) : Stb (G.cut n) w b o v := by
  refine ⟨s.1, ?_⟩
  rcases cut_fr' (n := n) (G := G) (b := b) with e | e
  · exact .inl e
  · rw [e]; exact s.2
theorem cut_ρ {n : Nat} (id b : Nat) (hi : id < n) (h : G.ρ id = some b) : (G.cut n).ρ id = some b := by simp only [Gh.cut, if_pos hi, h]
theorem cut_cv {n : Nat} (id m : Nat) (v : Value) (hi : id < n) (h : G.cv id = some (m, v)) : (G.cut n).cv id = some (m, v) := by simp only [Gh.cut, if_pos hi, h]
theorem VR.within (I : Inv G w h) {V : Value} {x : AV} (r : VR G w V x) : x.wk h.nx x := by
  have own : ∀ {o : Own} {v : Value} {len cap : Nat}, OwnR G o v len cap → o.wk h.nx o := fun {o v len cap} r => .inr ⟨rfl, fun id e => by
    subst e
    obtain ⟨m, v', h1, _⟩ := r
    exact (I.chn id m v' h1).1⟩
  induction r with
  | bool b => simp only [AV.wk]
  | int k m => simp only [AV.wk]
  | str s => simp only [AV.wk]
  | ptr0 => simp only [AV.wk]
  | ptr id b off h0 => simp only [AV.wk]; exact ⟨(I.obj id b h0).1, trivial⟩
  | vp b off cs f h1 h2 ih =>
    simp only [AV.wk]
    exact ⟨cs, rfl, wks_iff.2 ⟨rfl, fun i x y hx hy => by rw [hx] at hy; cases hy; exact ih i x hx⟩⟩
  | sl0 A cap o hn ho => simp only [AV.wk]; exact ⟨o, [], rfl, own ho, by simp only [AV.wks]⟩
  | sl b off len cap s o els f hl hcap hs h1 h2 ho ih =>
    simp only [AV.wk]
    refine ⟨o, els, rfl, own ho, wks_iff.2 ⟨rfl, fun i x y hx hy => ?_⟩⟩
    rw [hx] at hy
    cases hy
    cases x with
    | agg cs =>
      simp only [AV.wk]
      exact ⟨cs, rfl, wks_iff.2 ⟨rfl, fun j a b ha hb => by rw [ha] at hb; cases hb; exact ih i j _ a hx ha⟩⟩
    | _ => exact ih i 0 _ _ hx rfl
  | map0 => simp only [AV.wk]
  | map id b h0 => simp only [AV.wk]; exact ⟨(I.obj id b h0).1, trivial⟩
  | rs id len b cap own hcap h0 => obtain ⟨m, v', h1, _⟩ := h0; simp only [AV.wk]; exact ⟨(I.chn id m v' h1).1, trivial⟩
  | rp id len off b h0 => obtain ⟨m, v', h1, _⟩ := h0; simp only [AV.wk]; exact ⟨(I.chn id m v' h1).1, trivial⟩
  | fn f a b c d ha hb h1 h2 ih1 ih2 =>
    simp only [AV.wk]
    refine ⟨c, d, rfl, wks_iff.2 ⟨rfl, fun i x y hx hy => ?_⟩, wks_iff.2 ⟨rfl, fun i x y hx hy => ?_⟩⟩
    · rw [hx] at hy; cases hy
      have hi : i < a.size := by have := getElem?_lt hx; omega
      exact ih1 i a[i] x (Array.getElem?_eq_getElem hi) hx
    · rw [hx] at hy; cases hy
      have hi : i < b.size := by have := getElem?_lt hx; omega
      exact ih2 i b[i] x (Array.getElem?_eq_getElem hi) hx
  | nilFn => simp only [AV.wk]
  | iface t v x h0 ih => simp only [AV.wk]; exact ⟨x, rfl, ih⟩
  | nilIface => simp only [AV.wk]
  | agg a c ha h1 ih =>
    simp only [AV.wk]
    refine ⟨c, rfl, wks_iff.2 ⟨rfl, fun i x y hx hy => ?_⟩⟩
    rw [hx] at hy; cases hy
    have hi : i < a.size := by have := getElem?_lt hx; omega
    exact ih i a[i] x (Array.getElem?_eq_getElem hi) hx
  | tup a c ha h1 ih =>
    simp only [AV.wk]
    refine ⟨c, rfl, wks_iff.2 ⟨rfl, fun i x y hx hy => ?_⟩⟩
    rw [hx] at hy; cases hy
    have hi : i < a.size := by have := getElem?_lt hx; omega
    exact ih i a[i] x (Array.getElem?_eq_getElem hi) hx
theorem ObjR.wk {n : Nat} {o o' : Obj} {p : Option Go.Obj} (hw : o.wk n o') (r : ObjR G w (some o) p) : ObjR (G.cut n) w (some o') p := by
  have vr : ∀ {V : Value} {x y : AV}, VR G w V x → x.wk n y → VR (G.cut n) w V y := fun r h => VR.wk (fun b o v => cut_stb) cut_ρ cut_cv r h
  match o, p, r with
  | .cells cs, some (.cells c _ fz), r =>
    simp only [Obj.wk] at hw
    obtain ⟨ds, rfl, hw⟩ := hw
    exact ⟨r.1, VRs.wk (fun b o v => cut_stb) cut_ρ cut_cv r.2 hw⟩
  | .map es, some (.map ents _), r =>
    simp only [Obj.wk] at hw
    obtain ⟨fs, rfl, hl, hw⟩ := hw
    refine ⟨by rw [r.1, hl], fun i e k x he hf => ?_⟩
    have hi : i < es.length := by have := getElem?_lt hf; omega
    obtain ⟨q1, q2⟩ := hw i es[i].1 es[i].2 k x (List.getElem?_eq_getElem hi) hf
    obtain ⟨r1, r2⟩ := r.2 i e es[i].1 es[i].2 he (List.getElem?_eq_getElem hi)
    exact ⟨vr r1 q1, vr r2 q2⟩
theorem ObjR.within (I : Inv G w h) {o : Obj} {p : Option Go.Obj} (r : ObjR G w (some o) p) : o.wk h.nx o := by
  match o, p, r with
  | .cells cs, some (.cells c _ fz), r =>
    simp only [Obj.wk]
    refine ⟨cs, rfl, wks_iff.2 ⟨rfl, fun i x y hx hy => ?_⟩⟩
    rw [hx] at hy; cases hy
    have hi : i < c.toList.length := by have := getElem?_lt hx; have := r.2.1; omega
    exact VR.within I (r.2.2 i _ x (List.getElem?_eq_getElem hi) hx)
  | .map es, some (.map ents _), r =>
    simp only [Obj.wk]
    refine ⟨es, rfl, rfl, fun i k x k' x' hx hy => ?_⟩
    rw [hx] at hy; cases hy
    have hi : i < ents.size := by have := getElem?_lt hx; have := r.1; omega
    obtain ⟨r1, r2⟩ := r.2 i ents[i] k x (Array.getElem?_eq_getElem hi) hx
    exact ⟨VR.within I r1, VR.within I r2⟩

theorem gc_ext (I : Inv G w h) (E : Ext G w h G1 w1 h1) (K : Keep h h1 hk) : Ext G w h (G1.cut h.nx) w1 hk where
  os := E.os
  tape := E.tape
  output := E.output
  size := E.size
  base := E.base
  still := fun b hb hf => ⟨(E.still b hb hf).1, cut_none (E.still b hb hf).2⟩
  part := fun b k o v hf ho hv => by
    obtain ⟨h2, h3⟩ := E.part b k o v hf ho hv
    exact ⟨h2, (cut_stb (n := h.nx) (G := G1) (w := w1) (v := v) ⟨h2, h3⟩).2⟩
  ρ := fun id b hr => cut_ρ id b (I.obj id b hr).1 (E.ρ id b hr)
  cv := fun id n v hc => by
    obtain ⟨n', v', h2, h3, h4⟩ := E.cv id n v hc
    exact ⟨n', v', cut_cv id n' v' (I.chn id n v hc).1 h2, h3, h4⟩
  nx := by rw [K.nx]; exact Nat.le_refl _
  unm := fun id hi hr hc => by
    obtain ⟨h2, h3, h4⟩ := E.unm id hi hr hc
    refine ⟨?_, by simp only [Gh.cut, if_pos hi, h3], by simp only [Gh.cut, if_pos hi, h4]⟩
    rcases K.obj id hi with ⟨q1, _⟩ | ⟨o, o', q1, q2, _, q4⟩
    · exact q1
    · rw [q2, q4 (by rw [← h2]; exact q1), ← h2, q1]
  own := fun b hb ho => by
    obtain ⟨h2, h3, h4⟩ := E.own b hb ho
    refine ⟨h2, ?_, ?_⟩
    · rw [← h3]; simp only [Gh.cut, h4]
    · simp only [Gh.cut, h4]
theorem gc_inv (I : Inv G w h) (I1 : Inv G1 w1 h1) (E : Ext G w h G1 w1 h1) (K : Keep h h1 hk) : Inv (G1.cut h.nx) w1 hk where
  wf := fun id o ho => by
    rw [K.nx]
    rcases K.top id o ho with q | ⟨o', q⟩
    · exact q
    · exact I.wf id o' q
  frb := fun b k hf => I1.frb b k (cut_fr hf)
  bas := I1.bas
  obj := fun id b hr => by
    simp only [Gh.cut] at hr
    split at hr
    · rename_i hi
      obtain ⟨a1, a2, a3, a4⟩ := I1.obj id b hr
      refine ⟨by rw [K.nx]; exact hi, by simp only [Gh.cut, a3, if_pos hi, a2], by simp only [Gh.cut, a3, if_pos hi], ?_⟩
      rcases K.obj id hi with ⟨q1, q2⟩ | ⟨o, o', q1, q2, q3, _⟩
      · rw [q1]
        rw [q2] at a4
        -- the object is an old one
        have hold : ∃ p, ObjR G w (h.t.get id) p := by
          cases hρ : G.ρ id with
          | some b' => exact ⟨_, (I.obj id b' hρ).2.2.2⟩
          | none =>
            cases hcv : G.cv id with
            | none => rw [(E.unm id hi hρ hcv).2.1] at hr; simp at hr
            | some p =>
              obtain ⟨m, v⟩ := p
              obtain ⟨_, g, e, size, xs, cap, _, b2, _⟩ := I.chn id m v hcv
              exact (b2.no_obj a4).elim
        obtain ⟨p, hp⟩ := hold
        cases ho : h.t.get id with
        | none => rw [ho] at a4; simp [ObjR] at a4
        | some o =>
          rw [ho] at a4 hp
          exact ObjR.wk (ObjR.within I hp) a4
      · rw [q2]
        rw [q1] at a4
        exact ObjR.wk q3 a4
    · simp at hr
  chn := fun id m v hc => by
    simp only [Gh.cut] at hc
    split at hc
    · rename_i hi
      obtain ⟨a1, g, e, size, xs, cap, k, b2, b3, b4, b5, b6, b7⟩ := I1.chn id m v hc
      refine ⟨by rw [K.nx]; exact hi, g, e, size, xs, cap, k, ?_, b3, b4, by simp only [Gh.cut, b6, if_pos hi, b5], by simp only [Gh.cut, b6, if_pos hi], b7⟩
      rcases K.obj id hi with ⟨q1, q2⟩ | ⟨o, o', q1, q2, q3, _⟩
      · rw [q1, ← q2]
        rcases b2 with b2 | ⟨cs, c1, c2, c3⟩
        · exact .inl b2
        · refine .inr ⟨cs, c1, c2, VRs.wk (n := h.nx) (fun b o v => cut_stb) cut_ρ cut_cv c3 ?_⟩
          -- the row is an old one
          have hold : ∃ e' size' k' n' xs', ChR G w (h.t.get id) n' e' size' k' xs' := by
            cases hcv : G.cv id with
            | some p => obtain ⟨m', v'⟩ := p; obtain ⟨_, _, e', size', xs', _, k', b2, _⟩ := I.chn id m' v' hcv; exact ⟨_, _, _, _, _, b2⟩
            | none =>
              cases hρ : G.ρ id with
              | some b' =>
                have hx := (I.obj id b' hρ).2.2.2
                rw [← q2, c1] at hx
                exact hx.elim
              | none => rw [(E.unm id hi hρ hcv).2.2] at hc; simp at hc
          obtain ⟨e', size', k', n', xs', d⟩ := hold
          rw [← q2, c1] at d
          rcases d with ⟨d1, _⟩ | ⟨cs', d1, _, d3⟩
          · simp at d1
          · simp only [Option.some.injEq, Obj.row.injEq] at d1
            obtain ⟨_, _, _, rfl⟩ := d1
            refine wks_iff.2 ⟨rfl, fun i x y hx hy => ?_⟩
            rw [hx] at hy; cases hy
            have hil : i < xs'.length := by have := getElem?_lt hx; have := d3.1; omega
            exact VR.within I (d3.2 i _ x (List.getElem?_eq_getElem hil) hx)
      · rw [q2]
        rcases b2 with ⟨c1, c2⟩ | ⟨cs, c1, c2, c3⟩
        · rw [c1] at q1
          cases q1
          simp only [Obj.wk] at q3
          exact .inl ⟨by rw [q3], c2⟩
        · rw [c1] at q1
          cases q1
          simp only [Obj.wk] at q3
          obtain ⟨ds, rfl, q3⟩ := q3
          exact .inr ⟨ds, rfl, c2, VRs.wk (fun b o v => cut_stb) cut_ρ cut_cv c3 q3⟩
    · simp at hc
  ka := fun p hp => by
    obtain ⟨k1, k2, k3⟩ := I1.ka p hp
    exact ⟨k1, k2, cut_none k3⟩
end

section
variable [Inhabited KA0] {P : Program} {E : Env}
/-- A primitive out of a body's run, with what it leaves behind forgotten. -/
theorem prim_of (hE : EnvOk P E) {f : Nat} {fn : Func} {c : Code} (hf : E.fns f = some fn) (hb : fn.body = some c) {p : List AV → H → Option (AV × H)}
    (hp : ∀ args h v hk, p args h = some (v, hk) → Nat.ble args.length fn.ntmps = true ∧ ∃ args', AV.wks h.nx args args' ∧ ∃ v' h1, bodyL E f fn c args' h = some (v', h1) ∧ Keep h h1 hk ∧ v'.wk h.nx v) : PrimOk P f p := by
  obtain ⟨q1, q2⟩ := hE.fns f fn hf
  refine ⟨⟨fn, q1, q2, by rw [hb]; rfl⟩, fun args h v hk he G w A I hA => ?_⟩
  obtain ⟨hn, args', hwa, v', h1, hbd, K, hw⟩ := hp args h v hk he
  have hA' : VRs G w A.toList args' := VRs.wk (fun b o v s => s) (fun id b _ h => h) (fun id m v _ h => h) hA hwa
  have hn' : Nat.ble args'.length fn.ntmps = true := by rw [← (wks_iff.1 hwa).1]; exact hn
  refine ((bodyL_sim hE hf hb hn' hbd).2 G w A I hA').mono ?_
  rintro e w' ⟨G', V, rfl, hV, hI, hX⟩
  exact ⟨G'.cut h.nx, V, rfl, VR.wk (fun b o v => cut_stb) cut_ρ cut_cv hV hw, gc_inv I hI hX K, gc_ext I hX K⟩
/-- A primitive of values alone. -/
def primVal (p : List AV → Option AV) : List AV → H → Option (AV × H) := fun args h => match p args with | none => none | some v => some (v, h)
theorem primVal_ok (hE : EnvOk P E) {f : Nat} {fn : Func} {c : Code} (hf : E.fns f = some fn) (hb : fn.body = some c) {p : List AV → Option AV}
    (hp : ∀ args v, p args = some v → Nat.ble args.length fn.ntmps = true ∧ ∃ args', AV.wks 0 args args' ∧ ∃ v' h1, bodyL E f fn c args' ⟨.e, 0⟩ = some (v', h1) ∧ v'.wk 0 v) : PrimOk P f (primVal p) := by
  obtain ⟨q1, q2⟩ := hE.fns f fn hf
  refine ⟨⟨fn, q1, q2, by rw [hb]; rfl⟩, fun args h v hk he G w A I hA => ?_⟩
  unfold primVal at he
  cases hv : p args with
  | none => rw [hv] at he; simp at he
  | some v0 =>
    rw [hv] at he
    simp only [Option.some.injEq, Prod.mk.injEq] at he
    obtain ⟨rfl, rfl⟩ := he
    obtain ⟨hn, args', hwa, v', h1, hbd, hw⟩ := hp args v0 hv
    have hA' : VRs (Gp G) w A.toList args' := VRs.wk (n := 0) (G := G) (G' := Gp G) (fun b o v s => s) (fun id b hi => by omega) (fun id m v hi => by omega) hA hwa
    have hn' : Nat.ble args'.length fn.ntmps = true := by rw [← (wks_iff.1 hwa).1]; exact hn
    refine ((bodyL_sim hE hf hb hn' hbd).2 (Gp G) w A (invp I) hA').mono ?_
    rintro e w' ⟨G', V, rfl, hV, hI, hX⟩
    have hh : ∀ j, j < w.heap.size → w'.heap[j]? = w.heap[j]? := fun j hj => (hX.own j hj rfl).1
    refine ⟨G, V, rfl, VR.wk (n := 0) (G := G') (fun b o v s => ⟨s.1, ?_⟩) (fun id b hi => by omega) (fun id m v hi => by omega) hV hw, grow_inv I hX.os hX.tape hX.output hX.size hh, grow_ext G _ hX.os hX.tape hX.output hX.size hh⟩
    by_cases hbs : b < w.heap.size
    · have := (hX.own b hbs rfl).2.1
      have s2 := s.2
      rw [this] at s2
      exact s2
    · cases hf : G.fr b with
      | none => exact .inl rfl
      | some k' => exact absurd (I.frb b k' hf).2 hbs
theorem prim_rec {E0 : Env} (hE : EnvOk P E0) {f : Nat} {pd : Nat → List AV → H → Option (AV × H)} (h0 : PrimOk P f (pd 0)) (step : ∀ d, EnvOk P (addPrim E0 f (pd d)) → PrimOk P f (pd (d + 1))) : ∀ d, PrimOk P f (pd d)
  | 0 => h0
  | d + 1 => step d (addPrim_ok hE (prim_rec hE h0 step d))
theorem prim_none {f : Nat} {fn : Func} (hfn : P.funcs[f]? = some fn) (hnm : (fn.name == "runtime.NumGoroutine") = false) (hb : fn.body.isNone = false) {p : List AV → H → Option (AV × H)} (hp : ∀ a h, p a h = none) : PrimOk P f p :=
  ⟨⟨fn, hfn, hnm, hb⟩, fun args h v h' he => by rw [hp] at he; simp at he⟩
theorem prim_union {f : Nat} {p : List AV → H → Option (AV × H)} {pd : Nat → List AV → H → Option (AV × H)} (h : ∀ d, PrimOk P f (pd d)) (hu : ∀ a h r, p a h = some r → ∃ d, pd d a h = some r) : PrimOk P f p :=
  ⟨(h 0).1, fun args h0 v h' he => by
    obtain ⟨d, hd⟩ := hu args h0 _ he
    exact (h d).2 args h0 v h' hd⟩
end
end Go.Ev
