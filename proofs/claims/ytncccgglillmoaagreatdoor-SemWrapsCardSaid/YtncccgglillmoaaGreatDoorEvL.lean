/- A region that draws its order: the end of the proof. -/
import Derived.Test.YtncccgglillmoaaGreatDoorEvK
set_option autoImplicit false
set_option linter.unusedSectionVars false
set_option linter.unusedVariables false
set_option linter.unusedSimpArgs false
namespace Go.Ev
variable [Inhabited KA0] [MT]

section
variable {P : Program} {ty : Nat → Option TyI} {call : CallF} {n nx0 : Nat} {ops : Array Oper} {pl : List PE} {m : T Nat}

def Norm : List PE → Prop
  | [] => True
  | q :: _ => q.eff = true

theorem DR.normal (PP : PlanP ops pl m) {G : Gh} {w : World} {a : Act} {listed : Array Bool} {res : Tm × H} : ∀ (rest : List PE) {done : List PE} {h : H} {tm : Tm} {U : List Pd}, pl = done ++ rest →
    DR ty n nx0 ops G w h tm a listed done U → evPlan call ty n ops rest tm h = some res →
    ∃ done' rest' tm' h' U', pl = done' ++ rest' ∧ Norm rest' ∧ DR ty n nx0 ops G w h' tm' a listed done' U' ∧ evPlan call ty n ops rest' tm' h' = some res ∧ h.nx ≤ h'.nx ∧ ∀ id, id < h.nx → h'.t.get id = h.t.get id := by
  intro rest
  induction rest with
  | nil => intro done h tm U hpl D he; exact ⟨done, [], tm, h, U, hpl, trivial, D, he, Nat.le_refl _, fun _ _ => rfl⟩
  | cons q r ih =>
    intro done h tm U hpl D he
    cases hq : q.eff with
    | true => exact ⟨done, q :: r, tm, h, U, hpl, hq, D, he, Nat.le_refl _, fun _ _ => rfl⟩
    | false =>
      obtain ⟨tm', h', U', D', he', h1, h2⟩ := D.absorb PP hpl hq he
      obtain ⟨d, r', tm2, h3, U2, k1, k2, k3, k4, k5, k6⟩ := ih (by rw [hpl]; simp) D' he'
      exact ⟨d, r', tm2, h3, U2, k1, k2, k3, k4, Nat.le_trans h1 k5, fun id hid => (k6 id (by omega)).trans (h2 id hid)⟩

theorem Ext.more {G : Gh} {w : World} {h : H} {G' : Gh} {w' : World} {h' h2 : H} (E : Ext G w h G' w' h') (h1 : h'.nx ≤ h2.nx) (hg : ∀ id, id < h'.nx → h2.t.get id = h'.t.get id) : Ext G w h G' w' h2 :=
  ⟨E.os, E.tape, E.output, E.size, E.base, E.still, E.part, E.ρ, E.cv, Nat.le_trans E.nx h1, fun id hi a b => ⟨(hg id (Nat.lt_of_lt_of_le hi E.nx)).trans (E.unm id hi a b).1, (E.unm id hi a b).2⟩, E.own⟩

theorem getD_false_of_true {l : Array Bool} {i : Nat} (h : l.getD i true = false) : l.getD i false = false := by
  rw [Array.getD_eq_getD_getElem?] at *
  cases hl : l[i]? with
  | none => rfl
  | some b => rw [hl] at h; exact h
theorem getD_in_bounds {l : Array Bool} {i : Nat} (h : l.getD i true = false) : i < l.size := by
  rcases Nat.lt_or_ge i l.size with h' | h'
  · exact h'
  · simp [Array.getD_eq_getD_getElem?, Array.getElem?_eq_none h'] at h

theorem ready_spec {listed : Array Bool} {i : Nat} (h : i ∈ Region.ready .any ops listed) : listed.getD i false = false ∧ i < listed.size ∧ ∃ o, ops[i]? = some o ∧ ∀ d ∈ depsOf ops i, listed.getD d false = true := by
  obtain ⟨h0, o, ho, hd⟩ := mem_ready.1 h
  refine ⟨getD_false_of_true h0, getD_in_bounds h0, o, ho, fun d hd' => ?_⟩
  simp only [depsOf, ho, List.mem_map, List.mem_filter] at hd'
  obtain ⟨e, ⟨he, hb⟩, rfl⟩ := hd'
  exact hd e (by simpa using he) hb
theorem set_getD {listed : Array Bool} {i : Nat} (hi : i < listed.size) (j : Nat) : (listed.setIfInBounds i true).getD j false = true ↔ j = i ∨ listed.getD j false = true := by
  by_cases e : j = i
  · subst e; simp [Array.getD_eq_getD_getElem?, hi]
  · rw [getD_set_ne false (fun h => e h.symm)]
    simp [e]
theorem Down.set {listed : Array Bool} (D : Down ops listed) {i : Nat} (hi : i < listed.size) (hd : ∀ d ∈ depsOf ops i, listed.getD d false = true) : Down ops (listed.setIfInBounds i true) := by
  intro j hj d hdj
  rcases (set_getD hi j).1 hj with rfl | hj
  · exact (set_getD hi d).2 (.inr (hd d hdj))
  · exact (set_getD hi d).2 (.inr (D j hj d hdj))

/-- What must come ahead of a ready operation is listed. -/
theorem pre_listed {listed : Array Bool} (D : Down ops listed) {i : Nat} (hr : i ∈ Region.ready .any ops listed) {j : Nat} (hp : preB (preM ops pl .e) i j = true) (hne : j ≠ i) : listed.getD j false = true := by
  obtain ⟨_, hi, _, _, hd⟩ := ready_spec hr
  have := preM_down (D.set hi hd) pl .e (fun i j h _ => by simp [preB, T.get_e] at h) i j hp ((set_getD hi i).2 (.inl rfl))
  exact ((set_getD hi j).1 this).resolve_left hne

theorem Ext.weak {G : Gh} {w : World} {h : H} {G' : Gh} {w' : World} {h' : H} (E : Ext G w h G' w' h') {k : Nat} (hk : k ≤ h.nx) : Ext G w ⟨h.t, k⟩ G' w' h' :=
  ⟨E.os, E.tape, E.output, E.size, E.base, E.still, E.part, E.ρ, E.cv, Nat.le_trans hk E.nx, fun id hi a b => E.unm id (Nat.lt_of_lt_of_le hi hk) a b, E.own⟩
theorem Ext.cut {G : Gh} {w : World} {h : H} {G' : Gh} {w' : World} {h' : H} (E : Ext G w h G' w' h') : Ext G w h G' w' ⟨h'.t, h.nx⟩ :=
  ⟨E.os, E.tape, E.output, E.size, E.base, E.still, E.part, E.ρ, E.cv, Nat.le_refl _, E.unm, E.own⟩

theorem Act.defers_put (a : Act) (d : Option Tmp) (V : Value) : (a.put d V).defers = a.defers := by cases d <;> rfl
theorem getD_put {a : Act} {dst : Option Tmp} {V : Value} {t : Nat} (h : dst ≠ some t) : (a.put dst V).tmps.getD t undef = a.tmps.getD t undef := by
  cases dst with
  | none => rfl
  | some d =>
    simp only [Act.put]
    rw [Array.getD_eq_getD_getElem?, Array.getD_eq_getD_getElem?, Array.getElem?_setIfInBounds_ne (fun e => h (by rw [e]))]
theorem getD_put_same {a : Act} {d : Nat} {V : Value} (h : d < a.tmps.size) : (a.put (some d) V).tmps.getD d undef = V := by
  simp [Act.put, Array.getD_eq_getD_getElem?, h]

/-- What was put off is carried out. -/
theorem DR.pending (hA : ActOk P ty call) (hN : AllocOk P ty) (PP : PlanP ops pl (preM ops pl .e)) {G : Gh} {w : World} {h : H} {tm : Tm} {a : Act} {listed : Array Bool} {done rest : List PE} {U : List Pd} (hpl : pl = done ++ rest)
    (D : DR ty n nx0 ops G w h tm a listed done U) {u : Pd} (hu : u ∈ U) (hi : u.i ∈ Region.ready .any ops listed) (Q : Exit → Act → World → Prop) (K : Act → World → Prop)
    (hK : ∀ G' w' a' U', DR ty n nx0 ops G' w' h tm a' (listed.setIfInBounds u.i true) done U' → Ext G w ⟨h.t, nx0⟩ G' w' h → a'.defers = a.defers → K a' w') : wpOp P ops Q u.i K a w := by
  obtain ⟨hil, hib, o0, ho0, hdeps⟩ := ready_spec hi
  obtain ⟨⟨o, v, ho, hqt, hdst, hk⟩, p, hp, hpi, hpe⟩ := D.pds u hu
  have hdu : dstOf ops u.i = o.dst := by simp [dstOf, ho]
  obtain ⟨A, B, hAB⟩ := List.append_of_mem hp
  have hself := PP.self p (by rw [hpl]; simp [hp])
  simp only [selfOk, hpe, Bool.false_or, Bool.and_eq_true, Bool.not_eq_true'] at hself
  have hslots : ∀ t ∈ looks ops u.i, ∀ u' ∈ U, dstOf ops u'.i ≠ some t := by
    intro t ht u' hu' hd'
    by_cases hsame : u'.i = u.i
    · rw [hsame, ← hpi] at hd'
      rw [← hpi] at ht
      have := hself.2
      rw [hd'] at this
      exact dstIn_no this ht
    · obtain ⟨_, p', hp', hpi', hpe'⟩ := D.pds u' hu'
      have hnotl : listed.getD u'.i false = false := by
        cases hl : listed.getD u'.i false with
        | false => rfl
        | true => exact absurd rfl (((D.lst u'.i).1 hl).2 u' hu')
      have hor : (∃ A' B', pl = A' ++ p' :: B' ∧ p ∈ B') ∨ (∃ A' B', pl = A' ++ p :: B' ∧ p' ∈ B') := by
        rw [hAB] at hp'
        rcases List.mem_append.1 hp' with h1 | h1
        · obtain ⟨A1, B1, h2⟩ := List.append_of_mem h1
          exact .inl ⟨A1, B1 ++ p :: (B ++ rest), by rw [hpl, hAB, h2]; simp, by simp⟩
        · rcases List.mem_cons.1 h1 with h1 | h1
          · subst h1; exact absurd (hpi'.symm.trans hpi) hsame
          · exact .inr ⟨A, B ++ rest, by rw [hpl, hAB]; simp, by simp [h1]⟩
      rcases hor with ⟨A', B', e1, hin⟩ | ⟨A', B', e1, hin⟩
      · have hpr := (PP.pair A' p' B' e1 p hin).1
        simp only [pairOk, Bool.and_eq_true, Bool.or_eq_true, Bool.not_eq_true', Bool.or_eq_false_iff] at hpr
        rcases hpr.2.1 with ⟨c1, _⟩ | c1
        · rw [hpi', hpi, hd'] at c1; exact dstIn_no c1 ht
        · rw [hpi', hpi] at c1
          have := pre_listed D.down hi c1 hsame
          rw [hnotl] at this; cases this
      · have hpr := (PP.pair A' p B' e1 p' hin).1
        simp only [pairOk, Bool.and_eq_true, Bool.or_eq_true, Bool.not_eq_true', Bool.or_eq_false_iff, hpe', Bool.false_eq_true, false_and, or_false] at hpr
        have c1 := hpr.2.2.1.1
        rw [hpi', hpi, hd'] at c1
        exact dstIn_no c1 ht
  have hvals : ∀ x ∈ o.op.operands, ∀ y, val tm x = some y → VR G w (a.eval x) y := by
    intro x hx y hy
    cases x with
    | tmp t => exact D.vals t y hy (hslots t (looks_operand ho hx))
    | const c => exact ofVal_VR G w hy
    | func f => exact val_VR (a := a) (tm := .e) (fun t v h => by rw [T.get_e] at h; cases h) hy
    | global g => simp [val] at hy
  have hguard : ∀ j want, o.guard = some (j, want) → ∀ d, (ops[j]?).bind (·.dst) = some d → ∀ y, tm.get d = some y → VR G w (a.tmps.getD d undef) y :=
    fun j want hg d hd y hy => D.vals d y hy (hslots d (looks_guard ho hg hd))
  -- the state behind it
  have next : ∀ {G' : Gh} {w' : World} {V : Value}, Inv G' w' h → Ext G w ⟨h.t, nx0⟩ G' w' h → VR G' w' V v → (∀ x ∈ U, x.i ≠ u.i → ∀ id, x.id = some id → G'.ρ id = none ∧ G'.cv id = none) →
      K (a.put o.dst V) w' := by
    intro G' w' V I' E' hV hids
    refine hK G' w' _ (U.filter fun x => !Nat.beq x.i u.i) ⟨I', by rw [size_put]; exact D.sz, by rw [Array.size_setIfInBounds]; exact D.lsz, D.down.set hib hdeps, fun t y hy hne => ?_, fun j => ?_, fun x hx => ?_, fun x hx id e => ?_, ⟨D.nxl.1, fun x hx id e => ?_⟩, fun x hx y hy => ?_⟩ E' (Act.defers_put a _ V)
    · by_cases hd : o.dst = some t
      · obtain ⟨_, h2⟩ := hdst t hd
        rw [h2] at hy
        simp only [Option.some.injEq] at hy
        subst hy
        rw [hd, getD_put_same (by rw [D.sz]; exact (hdst t hd).1)]
        exact hV
      · rw [getD_put hd]
        refine (D.vals t y hy fun x hx => ?_).mono E'
        by_cases e : x.i = u.i
        · rw [e, hdu]; exact hd
        · exact hne x (List.mem_filter.2 ⟨hx, by rw [beq_no e]; rfl⟩)
    · rw [set_getD hib, D.lst j]
      constructor
      · rintro (rfl | ⟨h1, h2⟩)
        · refine ⟨⟨p, hp, hpi⟩, fun x hx e => ?_⟩
          have := (List.mem_filter.1 hx).2
          rw [e, beq_nat.2 rfl] at this
          cases this
        · exact ⟨h1, fun x hx => h2 x (List.mem_filter.1 hx).1⟩
      · rintro ⟨h1, h2⟩
        by_cases e : j = u.i
        · exact .inl e
        · refine .inr ⟨h1, fun x hx e2 => ?_⟩
          by_cases e3 : x.i = u.i
          · exact e (e2.symm.trans e3)
          · exact h2 x (List.mem_filter.2 ⟨hx, by rw [beq_no e3]; rfl⟩) e2
    · exact D.pds x (List.mem_filter.1 hx).1
    · have hx' := List.mem_filter.1 hx
      refine hids x hx'.1 (fun e2 => ?_) id e
      have := hx'.2
      rw [e2, beq_nat.2 rfl] at this
      cases this
    · exact D.nxl.2 x (List.mem_filter.1 hx).1 id e
    · exact D.idn x (List.mem_filter.1 hx).1 y (List.mem_filter.1 hy).1
  unfold wpOp
  rw [ho]
  simp only
  rcases hk with ⟨b1, b2, b3⟩ | ⟨b1, b2, b3, b4⟩ | ⟨id, obj, vOf, b1, b2, b3, b4, b5, b6, b7⟩
  · rw [wanted_eq hguard b2]
    simp only [Bool.false_eq_true, if_false]
    subst b3
    exact next D.inv ((Ext.refl G w h).weak D.nxl.1) (undef_VR G w) fun x hx _ => D.ids x hx
  · rw [wanted_eq hguard b2]
    simp only [if_true]
    refine .inl (hA G w h tm a o v h D.inv hvals (by rw [quiet_act hqt]; exact b4) K Q fun G' w' V I' E' hV => ?_)
    refine next I' (E'.weak D.nxl.1) hV fun x hx hne id e => ?_
    have hb : id < h.nx := by
      obtain ⟨⟨_, _, _, _, _, h4⟩, _⟩ := D.pds x hx
      rcases h4 with ⟨c1, _⟩ | ⟨c1, _⟩ | ⟨id', _, _, c1, _, _, c4, _⟩
      · rw [c1] at e; cases e
      · rw [c1] at e; cases e
      · rw [c1] at e
        simp only [Option.some.injEq] at e
        omega
    obtain ⟨c1, c2⟩ := D.ids x hx id e
    exact ⟨(E'.unm id hb c1 c2).2.1, (E'.unm id hb c1 c2).2.2⟩
  · rw [wanted_eq hguard b2]
    simp only [if_true]
    left
    obtain ⟨c1, c2⟩ := D.ids u hu id b1
    obtain ⟨V, q, G', e1, e2, e3⟩ := hN G w h tm a o obj vOf id D.inv b3 b7 hvals b4 c1 c2 b5
    unfold Oper.wp
    rw [e1]
    show K (a.put o.dst V) (w.alloc q)
    have hnid : nx0 ≤ id := D.nxl.2 u hu id b1
    refine next e2.inv (e2.ext ⟨h.t, nx0⟩ D.nxl.1 (fun j hj _ _ => by have : j < nx0 := hj; omega) (fun _ _ => rfl)) (by rw [b6]; exact e3) fun x hx hne id' e => ?_
    obtain ⟨d1, d2⟩ := D.ids x hx id' e
    have hne' : id' ≠ id := by
      rintro rfl
      exact D.idn u hu x hx (fun e'' => hne e''.symm) id' b1 e
    exact ⟨by rw [e2.ρ id' hne']; exact d1, by rw [e2.cv id' hne']; exact d2⟩

end

end Go.Ev
