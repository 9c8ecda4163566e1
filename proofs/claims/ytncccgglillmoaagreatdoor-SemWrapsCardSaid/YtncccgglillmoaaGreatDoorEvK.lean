/- A region that draws its order: the proof. -/
import Derived.Test.YtncccgglillmoaaGreatDoorEvH
set_option autoImplicit false
set_option linter.unusedSectionVars false
set_option linter.unusedVariables false
set_option linter.unusedSimpArgs false
namespace Go.Ev
variable [Inhabited KA0] [MT]

/-! ### 1. What the look at a plan says -/
structure PlanP (ops : Array Oper) (pl : List PE) (m : T Nat) : Prop where
  pair : ∀ A p B, pl = A ++ p :: B → ∀ q ∈ B, pairOk ops m p q = true ∧ q.i ≠ p.i
  self : ∀ p ∈ pl, selfOk ops p = true
  topo : ∀ A p B, pl = A ++ p :: B → ∀ d ∈ depsOf ops p.i, ∃ q ∈ A, q.i = d
  cover : ∀ k, k < ops.size → ∃ p ∈ pl, p.i = k
  range : ∀ p ∈ pl, p.i < ops.size

theorem pairsOk_spec {ops : Array Oper} {m : T Nat} : ∀ {pl : List PE}, pairsOk ops m pl = true →
    (∀ A p B, pl = A ++ p :: B → ∀ q ∈ B, pairOk ops m p q = true ∧ q.i ≠ p.i) ∧ ∀ p ∈ pl, selfOk ops p = true
  | [], _ => ⟨fun A p B h => by simp at h, fun p hp => by simp at hp⟩
  | x :: r, h => by
    simp only [pairsOk, Bool.and_eq_true, List.all_eq_true, Bool.not_eq_true', List.any_eq_false] at h
    obtain ⟨h1, h2, h3, h4⟩ := h
    obtain ⟨k1, k2⟩ := pairsOk_spec h4
    refine ⟨fun A p B e q hq => ?_, fun p hp => ?_⟩
    · cases A with
      | nil =>
        simp only [List.nil_append, List.cons.injEq] at e
        obtain ⟨rfl, rfl⟩ := e
        exact ⟨h2 q hq, fun he => h3 q hq (beq_nat.2 he)⟩
      | cons a A =>
        simp only [List.cons_append, List.cons.injEq] at e
        exact k1 A p B e.2 q hq
    · rcases List.mem_cons.1 hp with rfl | hp
      · exact h1
      · exact k2 p hp
theorem topoOk_spec {ops : Array Oper} : ∀ {pl : List PE} {seen : List Nat}, topoOk ops seen pl = true →
    ∀ A p B, pl = A ++ p :: B → ∀ d ∈ depsOf ops p.i, d ∈ seen ∨ ∃ q ∈ A, q.i = d
  | [], _, _, A, p, B, e, _, _ => by simp at e
  | x :: r, seen, h, A, p, B, e, d, hd => by
    simp only [topoOk, Bool.and_eq_true, List.all_eq_true, List.contains_iff_mem] at h
    cases A with
    | nil =>
      simp only [List.nil_append, List.cons.injEq] at e
      obtain ⟨rfl, rfl⟩ := e
      exact .inl (h.1 d hd)
    | cons a A =>
      simp only [List.cons_append, List.cons.injEq] at e
      obtain ⟨rfl, e⟩ := e
      rcases topoOk_spec h.2 A p B e d hd with h1 | ⟨q, hq, h1⟩
      · rcases List.mem_cons.1 h1 with rfl | h1
        · exact .inr ⟨_, by simp, rfl⟩
        · exact .inl h1
      · exact .inr ⟨q, by simp [hq], h1⟩
theorem planOk_spec {ops : Array Oper} {pl : List PE} (h : planOk ops pl = true) : PlanP ops pl (preM ops pl .e) := by
  simp only [planOk, Bool.and_eq_true, List.all_eq_true, List.any_eq_true, List.mem_range] at h
  obtain ⟨h1, h2, h3, h4, h5⟩ := h
  obtain ⟨k1, k2⟩ := pairsOk_spec h2
  refine ⟨k1, k2, fun A p B e d hd => ?_, fun k hk => ?_, fun p hp => blt_nat.1 (h4 p hp)⟩
  · rcases topoOk_spec h1 A p B e d hd with h | h
    · simp at h
    · exact h
  · obtain ⟨p, hp, e⟩ := h3 k hk
    exact ⟨p, hp, beq_nat.1 e⟩

theorem dstIn_no {d : Nat} {l : List Nat} (h : dstIn (some d) l = false) : d ∉ l := by
  intro hm
  simp only [dstIn] at h
  rw [List.contains_iff_mem.2 hm] at h
  cases h
theorem looks_operand {ops : Array Oper} {i : Nat} {o : Oper} (hi : ops[i]? = some o) {t : Nat} (h : Operand.tmp t ∈ o.op.operands) : t ∈ looks ops i := by
  simp only [looks, hi, Oper.looksAt, List.mem_append, List.mem_filterMap]
  exact .inl ⟨.tmp t, by simpa using h, rfl⟩
theorem looks_guard {ops : Array Oper} {i : Nat} {o : Oper} (hi : ops[i]? = some o) {j : Nat} {want : Bool} (hg : o.guard = some (j, want)) {d : Nat} (hd : (ops[j]?).bind (·.dst) = some d) : d ∈ looks ops i := by
  simp only [looks, hi, Oper.looksAt, List.mem_append]
  right
  simp [hg, hd]

/-- Slots that an operation doesn't name are nothing to it. -/
theorem wantedA_set {ops : Array Oper} {i : Nat} {o : Oper} (hi : ops[i]? = some o) {tm tm' : Tm} (h : ∀ t ∈ looks ops i, tm'.get t = tm.get t) : wantedA ops tm' o = wantedA ops tm o := by
  unfold wantedA
  cases hg : o.guard with
  | none => rfl
  | some p =>
    obtain ⟨j, want⟩ := p
    simp only
    cases hd : (ops[j]?).bind (·.dst) with
    | none => rfl
    | some d => simp only; rw [h d (looks_guard hi hg hd)]
theorem val_set {ops : Array Oper} {i : Nat} {o : Oper} (hi : ops[i]? = some o) {tm tm' : Tm} (h : ∀ t ∈ looks ops i, tm'.get t = tm.get t) : ∀ x ∈ o.op.operands, val tm' x = val tm x := by
  intro x hx
  cases x with
  | tmp t => exact h t (looks_operand hi hx)
  | _ => rfl

theorem putTm_get {n : Nat} {dst : Option Nat} {v : AV} {tm tm' : Tm} (h : putTm n dst v tm = some tm') : (∀ t, dst ≠ some t → tm'.get t = tm.get t) ∧ ∀ d, dst = some d → d < n ∧ tm'.get d = some v := by
  cases dst with
  | none => simp only [putTm, Option.some.injEq] at h; subst h; exact ⟨fun t _ => rfl, fun d hd => by cases hd⟩
  | some d =>
    simp only [putTm] at h
    cases hd : Nat.blt d n with
    | false => rw [hd] at h; simp at h
    | true =>
      rw [hd] at h
      simp only [cond_true, Option.some.injEq] at h
      subst h
      refine ⟨fun t ht => T.get_set_ne _ _ (fun e => ht (by rw [e])), fun e he => ?_⟩
      simp only [Option.some.injEq] at he
      subst he
      exact ⟨blt_nat.1 hd, T.get_set _ _ _⟩

theorem PdOk.step {ty : Nat → Option TyI} {ops : Array Oper} {n : Nat} {tm tm' : Tm} {h h' : H} {p : Pd} (hp : PdOk ty ops n tm h p) (hl : ∀ t ∈ looks ops p.i, tm'.get t = tm.get t)
    (hd : ∀ d, dstOf ops p.i = some d → tm'.get d = tm.get d) (hh : h' = h ∨ (∃ ob, h' = h.new ob) ∧ ∀ id q, h.t.get id = some q → id < h.nx) : PdOk ty ops n tm' h' p := by
  obtain ⟨o, v, h1, h2, h3, h4⟩ := hp
  have hw := wantedA_set h1 hl
  have hv := val_set h1 hl
  refine ⟨o, v, h1, h2, fun d e => ?_, ?_⟩
  · obtain ⟨a, b⟩ := h3 d e
    exact ⟨a, by rw [hd d (by simp [dstOf, h1, e])]; exact b⟩
  · rcases h4 with ⟨a, b, c⟩ | ⟨a, b, c, e⟩ | ⟨id, obj, vOf, a, b, c, d, e, f, g⟩
    · exact .inl ⟨a, by rw [hw]; exact b, c⟩
    · refine .inr (.inl ⟨a, by rw [hw]; exact b, c, ?_⟩)
      rw [evOp_congr h2 hv]
      rcases hh with rfl | ⟨⟨ob, rfl⟩, wf⟩
      · exact e
      · cases hk : opKind o.op with
        | pure => exact (pure_any hk e).2 _
        | read => exact (read_same hk e).2 ob wf
        | new => simp [allocB, hk] at c
        | write => simp [quietB, hk] at h2
    · refine .inr (.inr ⟨id, obj, vOf, a, by rw [hw]; exact b, c, ?_, ?_, f, by rw [evNew_congr hv]; exact g⟩)
      · rcases hh with rfl | ⟨⟨ob, rfl⟩, wf⟩
        · exact d
        · show id < h.nx + 1; omega
      · rcases hh with rfl | ⟨⟨ob, rfl⟩, wf⟩
        · exact e
        · exact new_get wf e

theorem PdOk.eff {ty : Nat → Option TyI} {ops : Array Oper} {n : Nat} {tm tm' : Tm} {h h' : H} {p : Pd} (hp : PdOk ty ops n tm h p) (hl : ∀ t ∈ looks ops p.i, tm'.get t = tm.get t)
    (hd : ∀ d, dstOf ops p.i = some d → tm'.get d = tm.get d) (hnx : h.nx ≤ h'.nx) (hid : ∀ id, p.id = some id → h'.t.get id = h.t.get id)
    (hr : opB readB ops p.i = true → recheck ty ops tm' h' [p.i] = true) : PdOk ty ops n tm' h' p := by
  obtain ⟨o, v, h1, h2, h3, h4⟩ := hp
  have hw := wantedA_set h1 hl
  have hv := val_set h1 hl
  refine ⟨o, v, h1, h2, fun d e => ?_, ?_⟩
  · obtain ⟨a, b⟩ := h3 d e
    exact ⟨a, by rw [hd d (by simp [dstOf, h1, e])]; exact b⟩
  · rcases h4 with ⟨a, b, c⟩ | ⟨a, b, c, e⟩ | ⟨id, obj, vOf, a, b, c, d, e, f, g⟩
    · exact .inl ⟨a, by rw [hw]; exact b, c⟩
    · refine .inr (.inl ⟨a, by rw [hw]; exact b, c, ?_⟩)
      cases hk : opKind o.op with
      | pure => rw [evOp_congr h2 hv]; exact (pure_any hk e).2 _
      | read =>
        have := hr (by simp [opB, h1, readB, hk])
        simp only [recheck, h1, hw, b, Bool.and_true] at this
        cases hdst : o.dst with
        | none => rw [hdst] at this; simp at this
        | some d =>
          rw [hdst] at this
          simp only at this
          have hg : tm'.get d = some v := by rw [hd d (by simp [dstOf, h1, hdst])]; exact (h3 d hdst).2
          rw [hg] at this
          cases hev : evOp ty tm' h' o.op with
          | none => rw [hev] at this; simp at this
          | some q =>
            obtain ⟨v', h''⟩ := q
            rw [hev] at this
            simp only at this
            have e1 := AV.beq_eq _ _ this
            have e2 := (read_same hk hev).1
            rw [e1, e2]
      | new => simp [allocB, hk] at c
      | write => simp [quietB, hk] at h2
    · exact .inr (.inr ⟨id, obj, vOf, a, by rw [hw]; exact b, c, by omega, by rw [hid id a]; exact e, f, by rw [evNew_congr hv]; exact g⟩)

theorem recheck_mem {ty : Nat → Option TyI} {ops : Array Oper} {tm : Tm} {h : H} : ∀ {l : List Nat}, recheck ty ops tm h l = true → ∀ j ∈ l, recheck ty ops tm h [j] = true
  | [], _, j, hj => by simp at hj
  | x :: l, hr, j, hj => by
    have e : recheck ty ops tm h (x :: l) = (recheck ty ops tm h [x] && recheck ty ops tm h l) := by simp only [recheck, Bool.and_true]
    rw [e, Bool.and_eq_true] at hr
    rcases List.mem_cons.1 hj with rfl | hj
    · exact hr.1
    · exact recheck_mem hr.2 j hj

theorem quiet_act {call : CallF} {ty : Nat → Option TyI} {tm : Tm} {h : H} {o : Op} (hq : quietB o = true) : evAct call ty tm h o = evOp ty tm h o := by
  unfold evAct
  split
  · rename_i f args ats
    simp [quietB, opKind] at hq
  · rfl

/-! ### 2. The state of a region that is under way -/
structure DR (ty : Nat → Option TyI) (n nx0 : Nat) (ops : Array Oper) (G : Gh) (w : World) (h : H) (tm : Tm) (a : Act) (listed : Array Bool) (done : List PE) (U : List Pd) : Prop where
  inv : Inv G w h
  sz : a.tmps.size = n
  lsz : listed.size = ops.size
  down : Down ops listed
  vals : ∀ t v, tm.get t = some v → (∀ u ∈ U, dstOf ops u.i ≠ some t) → VR G w (a.tmps.getD t undef) v
  lst : ∀ i, listed.getD i false = true ↔ (∃ p ∈ done, p.i = i) ∧ ∀ u ∈ U, u.i ≠ i
  pds : ∀ u ∈ U, PdOk ty ops n tm h u ∧ ∃ p ∈ done, p.i = u.i ∧ p.eff = false
  ids : ∀ u ∈ U, ∀ id, u.id = some id → G.ρ id = none ∧ G.cv id = none
  nxl : nx0 ≤ h.nx ∧ ∀ u ∈ U, ∀ id, u.id = some id → nx0 ≤ id
  idn : ∀ u ∈ U, ∀ v ∈ U, u.i ≠ v.i → ∀ id, u.id = some id → v.id ≠ some id

theorem evOne_some {call : CallF} {ty : Nat → Option TyI} {n : Nat} {ops : Array Oper} {o : Oper} {tm tm' : Tm} {h h' : H} (he : evOne call ty n ops o tm h = some (tm', h')) :
    (wantedA ops tm o = some false ∧ putTm n o.dst (.tup []) tm = some tm' ∧ h' = h) ∨ (∃ v, wantedA ops tm o = some true ∧ evAct call ty tm h o.op = some (v, h') ∧ putTm n o.dst v tm = some tm') := by
  unfold evOne at he
  cases hw : wantedA ops tm o with
  | none => rw [hw] at he; simp at he
  | some b =>
    rw [hw] at he
    cases b with
    | false =>
      simp only at he
      cases hp : putTm n o.dst (.tup []) tm with
      | none => rw [hp] at he; simp at he
      | some t1 =>
        rw [hp] at he
        simp only [Option.some.injEq, Prod.mk.injEq] at he
        obtain ⟨rfl, rfl⟩ := he
        exact .inl ⟨rfl, rfl, rfl⟩
    | true =>
      simp only at he
      cases hv : evAct call ty tm h o.op with
      | none => rw [hv] at he; simp at he
      | some q =>
        obtain ⟨v, h1⟩ := q
        rw [hv] at he
        simp only at he
        cases hp : putTm n o.dst v tm with
        | none => rw [hp] at he; simp at he
        | some t1 =>
          rw [hp] at he
          simp only [Option.some.injEq, Prod.mk.injEq] at he
          obtain ⟨rfl, rfl⟩ := he
          exact .inr ⟨v, rfl, rfl, hp⟩

section
variable {P : Program} {ty : Nat → Option TyI} {call : CallF} {n nx0 : Nat} {ops : Array Oper} {pl : List PE} {m : T Nat}

/-- A quiet operation is put off. -/
theorem DR.absorb (PP : PlanP ops pl m) {G : Gh} {w : World} {h : H} {tm : Tm} {a : Act} {listed : Array Bool} {done r : List PE} {U : List Pd} {q : PE} (hpl : pl = done ++ q :: r)
    (D : DR ty n nx0 ops G w h tm a listed done U) (hq : q.eff = false) {res : Tm × H} (he : evPlan call ty n ops (q :: r) tm h = some res) :
    ∃ tm' h' U', DR ty n nx0 ops G w h' tm' a listed (done ++ [q]) U' ∧ evPlan call ty n ops r tm' h' = some res ∧ h.nx ≤ h'.nx ∧ ∀ id, id < h.nx → h'.t.get id = h.t.get id := by
  simp only [evPlan] at he
  cases ho : ops[q.i]? with
  | none => rw [ho] at he; simp at he
  | some o =>
    rw [ho] at he
    simp only at he
    cases h1 : evOne call ty n ops o tm h with
    | none => rw [h1] at he; simp at he
    | some p =>
      obtain ⟨tm1, g1⟩ := p
      rw [h1] at he
      simp only at he
      cases hrc : recheck ty ops tm1 g1 q.chk with
      | false => rw [hrc] at he; simp at he
      | true =>
        rw [hrc] at he
        simp only [cond_true] at he
        have hself := PP.self q (by rw [hpl]; simp)
        simp only [selfOk, hq, Bool.false_or, Bool.and_eq_true, Bool.not_eq_true'] at hself
        obtain ⟨hqt, hown⟩ := hself
        have hqt' : quietB o.op = true := by simpa [opB, ho] using hqt
        have hdq : dstOf ops q.i = o.dst := by simp [dstOf, ho]
        -- what was put off does not name q's slot
        have hold : ∀ u ∈ U, (∀ t ∈ looks ops u.i, o.dst ≠ some t) ∧ ∀ d, dstOf ops u.i = some d → o.dst ≠ some d := by
          intro u hu
          obtain ⟨_, p, hp, hpi, hpe⟩ := D.pds u hu
          obtain ⟨A, B, hAB⟩ := List.append_of_mem hp
          have hpr := (PP.pair A p (B ++ q :: r) (by rw [hpl, hAB]; simp) q (by simp)).1
          simp only [pairOk, Bool.and_eq_true, Bool.or_eq_true, Bool.not_eq_true', hq, Bool.false_eq_true, false_and, or_false, Bool.or_eq_false_iff] at hpr
          obtain ⟨_, _, ⟨c1, c2⟩, _⟩ := hpr
          rw [hdq, hpi] at c1 c2
          refine ⟨fun t ht e => ?_, fun d hd e => ?_⟩
          · rw [e] at c1; exact dstIn_no c1 ht
          · rw [e, hd] at c2; simp [dstSame] at c2
        have hnd : ∀ p ∈ done, p.i ≠ q.i := by
          intro p hp e
          obtain ⟨A, B, hAB⟩ := List.append_of_mem hp
          exact (PP.pair A p (B ++ q :: r) (by rw [hpl, hAB]; simp) q (by simp)).2 e.symm
        -- the step itself
        obtain ⟨v, uid, hput, hh, hpd, hids⟩ : ∃ (v : AV) (uid : Option Nat), putTm n o.dst v tm = some tm1 ∧ (g1 = h ∨ (∃ ob, g1 = h.new ob) ∧ ∀ id q, h.t.get id = some q → id < h.nx) ∧
            ((uid = none ∧ wantedA ops tm o = some false ∧ v = .tup []) ∨ (uid = none ∧ wantedA ops tm o = some true ∧ allocB o.op = false ∧ g1 = h ∧ evOp ty tm h o.op = some (v, h)) ∨
             (∃ (obj : Obj) (vOf : Nat → AV), uid = some h.nx ∧ wantedA ops tm o = some true ∧ opKind o.op = .new ∧ g1 = h.new obj ∧ v = vOf h.nx ∧ evNew ty tm o.op = some (obj, vOf))) ∧ (∀ id, uid = some id → id = h.nx) := by
          rcases evOne_some h1 with ⟨a1, a2, rfl⟩ | ⟨v, a1, a2, a3⟩
          · exact ⟨.tup [], none, a2, .inl rfl, .inl ⟨rfl, a1, rfl⟩, fun id e => by cases e⟩
          · rw [quiet_act hqt'] at a2
            cases hk : opKind o.op with
            | pure =>
              have e := (pure_any hk a2).1
              subst e
              exact ⟨v, none, a3, .inl rfl, .inr (.inl ⟨rfl, a1, by simp [allocB, hk], rfl, a2⟩), fun id e => by cases e⟩
            | read =>
              have e := (read_same hk a2).1
              subst e
              exact ⟨v, none, a3, .inl rfl, .inr (.inl ⟨rfl, a1, by simp [allocB, hk], rfl, a2⟩), fun id e => by cases e⟩
            | new =>
              obtain ⟨obj, vOf, e1, e2, e3⟩ := alloc_any hk a2
              exact ⟨v, some h.nx, a3, .inr ⟨⟨obj, e1⟩, D.inv.wf⟩, .inr (.inr ⟨obj, vOf, rfl, a1, rfl, e1, e2, e3⟩), fun id e => by simpa using e.symm⟩
            | write => simp [quietB, hk] at hqt'
        obtain ⟨g_ne, g_eq⟩ := putTm_get hput
        have hlook : ∀ t ∈ looks ops q.i, tm1.get t = tm.get t := by
          intro t ht
          refine g_ne t fun e => ?_
          rw [hdq, e] at hown
          exact dstIn_no hown ht
        have inv1 : Inv G w g1 := by
          rcases hh with rfl | ⟨⟨ob, rfl⟩, _⟩
          · exact D.inv
          · exact new_inv D.inv ob
        have hnx : h.nx ≤ g1.nx := by
          rcases hh with rfl | ⟨⟨ob, rfl⟩, _⟩
          · exact Nat.le_refl _
          · exact Nat.le_succ _
        refine ⟨tm1, g1, ⟨q.i, uid⟩ :: U, ⟨inv1, D.sz, D.lsz, D.down, fun t u ht hne => ?_, fun i => ?_, fun u hu => ?_, fun u hu id e => ?_, ⟨Nat.le_trans D.nxl.1 hnx, fun u hu id e => ?_⟩, fun u hu v' hv' hne id e => ?_⟩, he, hnx, fun id hid => ?_⟩
        · have hqn := hne ⟨q.i, uid⟩ (by simp)
          rw [hdq] at hqn
          rw [g_ne t hqn] at ht
          exact D.vals t u ht fun u' hu' => hne u' (by simp [hu'])
        · rw [D.lst i]
          constructor
          · rintro ⟨⟨p, hp, e⟩, h2⟩
            refine ⟨⟨p, by simp [hp], e⟩, fun u hu => ?_⟩
            rcases List.mem_cons.1 hu with rfl | hu
            · exact fun e2 => hnd p hp (e.trans e2.symm)
            · exact h2 u hu
          · rintro ⟨⟨p, hp, e⟩, h2⟩
            have hqi := h2 ⟨q.i, uid⟩ (by simp)
            rcases List.mem_append.1 hp with hp | hp
            · exact ⟨⟨p, hp, e⟩, fun u hu => h2 u (by simp [hu])⟩
            · simp only [List.mem_singleton] at hp
              subst hp
              exact absurd e hqi
        · rcases List.mem_cons.1 hu with rfl | hu
          · refine ⟨?_, q, by simp, rfl, hq⟩
            have hw := wantedA_set ho hlook
            have hvv := val_set ho hlook
            refine ⟨o, v, ho, hqt', fun d hd => g_eq d hd, ?_⟩
            rcases hpd with ⟨b1, b2, b3⟩ | ⟨b1, b2, b3, b4, b5⟩ | ⟨obj, vOf, b1, b2, b3, b4, b5, b6⟩
            · exact .inl ⟨b1, by rw [hw]; exact b2, b3⟩
            · refine .inr (.inl ⟨b1, by rw [hw]; exact b2, b3, ?_⟩)
              rw [evOp_congr hqt' hvv, b4]
              exact b5
            · refine .inr (.inr ⟨h.nx, obj, vOf, b1, by rw [hw]; exact b2, b3, ?_, ?_, b5, by rw [evNew_congr hvv]; exact b6⟩)
              · rw [b4]; exact Nat.lt_succ_self _
              · rw [b4]; exact T.get_set _ _ _
          · obtain ⟨k1, p, hp, k2, k3⟩ := D.pds u hu
            obtain ⟨o1, o2⟩ := hold u hu
            exact ⟨k1.step (fun t ht => g_ne t (o1 t ht)) (fun d hd => g_ne d (o2 d hd)) hh, p, by simp [hp], k2, k3⟩
        · rcases List.mem_cons.1 hu with rfl | hu
          · have := hids id e
            subst this
            obtain ⟨f1, f2, _⟩ := D.inv.fresh
            exact ⟨f1, f2⟩
          · exact D.ids u hu id e
        · rcases List.mem_cons.1 hu with rfl | hu
          · have := hids id e
            subst this
            exact D.nxl.1
          · exact D.nxl.2 u hu id e
        · have old : ∀ u ∈ U, ∀ id, u.id = some id → id < h.nx := by
            intro u hu id e
            obtain ⟨⟨o', v', _, _, _, h4⟩, _⟩ := D.pds u hu
            rcases h4 with ⟨b1, _⟩ | ⟨b1, _⟩ | ⟨id', _, _, b1, _, _, b4, _⟩
            · rw [b1] at e; cases e
            · rw [b1] at e; cases e
            · rw [b1] at e
              simp only [Option.some.injEq] at e
              omega
          rcases List.mem_cons.1 hu with rfl | hu
          · have := hids id e
            subst this
            rcases List.mem_cons.1 hv' with rfl | hv'
            · exact absurd rfl hne
            · intro e2; have := old v' hv' _ e2; omega
          · rcases List.mem_cons.1 hv' with rfl | hv'
            · intro e2
              have := hids id e2
              subst this
              have := old u hu _ e
              omega
            · exact D.idn u hu v' hv' hne id e
        · rcases hh with rfl | ⟨⟨ob, rfl⟩, _⟩
          · rfl
          · exact T.get_set_ne _ _ (by omega)
end

end Go.Ev
