/- A region that draws its order: all of it. -/
import Derived.Test.YtncccgglillmoaaGreatDoorEvL
set_option autoImplicit false
set_option linter.unusedSectionVars false
set_option linter.unusedVariables false
set_option linter.unusedSimpArgs false
namespace Go.Ev
variable [Inhabited KA0] [MT]
section
variable {P : Program} {ty : Nat → Option TyI} {call : CallF} {n nx0 : Nat} {ops : Array Oper} {pl : List PE} {m : T Nat}

/-- The next operation that acts. -/
theorem DR.acts (hA : ActOk P ty call) (PP : PlanP ops pl (preM ops pl .e)) {G : Gh} {w : World} {h : H} {tm : Tm} {a : Act} {listed : Array Bool} {done r : List PE} {U : List Pd} {q : PE} (hpl : pl = done ++ q :: r)
    (D : DR ty n nx0 ops G w h tm a listed done U) (hq : q.eff = true) (hi : q.i ∈ Region.ready .any ops listed) {res : Tm × H} (he : evPlan call ty n ops (q :: r) tm h = some res)
    (Q : Exit → Act → World → Prop) (K : Act → World → Prop)
    (hK : ∀ G' w' h' tm' a', DR ty n nx0 ops G' w' h' tm' a' (listed.setIfInBounds q.i true) (done ++ [q]) U → Ext G w ⟨h.t, nx0⟩ G' w' h' → a'.defers = a.defers → evPlan call ty n ops r tm' h' = some res → K a' w') :
    wpOp P ops Q q.i K a w := by
  obtain ⟨hil, hib, o, ho, hdeps⟩ := ready_spec hi
  simp only [evPlan, ho] at he
  cases h1 : evOne call ty n ops o tm h with
  | none => rw [h1] at he; simp at he
  | some p =>
    obtain ⟨tm1, g1⟩ := p
    rw [h1] at he
    simp only at he
    cases hrc : recheck ty ops tm1 g1 q.chk with
    | false => rw [hrc] at he; simp at he
    | true =>
      rw [hrc] at he
      simp only [cond_true] at he
      have hdq : dstOf ops q.i = o.dst := by simp [dstOf, ho]
      have hnotl : ∀ u ∈ U, listed.getD u.i false = false := by
        intro u hu
        cases hl : listed.getD u.i false with
        | false => rfl
        | true => exact absurd rfl (((D.lst u.i).1 hl).2 u hu)
      have hprs : ∀ u ∈ U, ∃ p, p.i = u.i ∧ p.eff = false ∧ pairOk ops (preM ops pl .e) p q = true ∧ u.i ≠ q.i := by
        intro u hu
        obtain ⟨_, p, hp, hpi, hpe⟩ := D.pds u hu
        obtain ⟨A, B, hAB⟩ := List.append_of_mem hp
        obtain ⟨k1, k2⟩ := PP.pair A p (B ++ q :: r) (by rw [hpl, hAB]; simp) q (by simp)
        exact ⟨p, hpi, hpe, k1, fun e => k2 (by rw [hpi, e])⟩
      have hnpre : ∀ u ∈ U, preB (preM ops pl .e) q.i u.i = false := by
        intro u hu
        cases hb : preB (preM ops pl .e) q.i u.i with
        | false => rfl
        | true =>
          obtain ⟨_, _, _, _, hne⟩ := hprs u hu
          have := pre_listed D.down hi hb hne
          rw [hnotl u hu] at this
          cases this
      -- its slots
      have hslots : ∀ t ∈ looks ops q.i, ∀ u ∈ U, dstOf ops u.i ≠ some t := by
        intro t ht u hu hd
        obtain ⟨p, hpi, hpe, hpr, _⟩ := hprs u hu
        simp only [pairOk, Bool.and_eq_true, Bool.or_eq_true, Bool.not_eq_true', Bool.or_eq_false_iff] at hpr
        rcases hpr.2.1 with ⟨c1, _⟩ | c1
        · rw [hpi, hd] at c1; exact dstIn_no c1 ht
        · rw [hpi, hnpre u hu] at c1; cases c1
      have hold : ∀ u ∈ U, (∀ t ∈ looks ops u.i, o.dst ≠ some t) ∧ ∀ d, dstOf ops u.i = some d → o.dst ≠ some d := by
        intro u hu
        obtain ⟨p, hpi, hpe, hpr, _⟩ := hprs u hu
        simp only [pairOk, Bool.and_eq_true, Bool.or_eq_true, Bool.not_eq_true', Bool.or_eq_false_iff] at hpr
        rcases hpr.2.2.1 with ⟨c1, c2⟩ | ⟨_, c1⟩
        · rw [hdq, hpi] at c1 c2
          refine ⟨fun t ht e => ?_, fun d hd e => ?_⟩
          · rw [e] at c1; exact dstIn_no c1 ht
          · rw [e, hd] at c2; simp [dstSame] at c2
        · rw [hpi, hnpre u hu] at c1; cases c1
      have hchk : ∀ u ∈ U, opB readB ops u.i = true → recheck ty ops tm1 g1 [u.i] = true := by
        intro u hu hr
        obtain ⟨p, hpi, hpe, hpr, _⟩ := hprs u hu
        simp only [pairOk, Bool.and_eq_true, Bool.or_eq_true, Bool.not_eq_true', hpe, hq, Bool.false_eq_true, false_or, or_false, Bool.true_eq_false] at hpr
        rcases hpr.2.2.2 with (c1 | c1) | c1
        · rw [hpi, hr] at c1; cases c1
        · rw [hpi, hnpre u hu] at c1; cases c1
        · exact recheck_mem hrc u.i (by rw [← hpi]; exact List.contains_iff_mem.1 c1)
      have hvals : ∀ x ∈ o.op.operands, ∀ y, val tm x = some y → VR G w (a.eval x) y := by
        intro x hx y hy
        cases x with
        | tmp t => exact D.vals t y hy (hslots t (looks_operand ho hx))
        | const c => exact ofVal_VR G w hy
        | func f => exact val_VR (a := a) (tm := .e) (fun t v h => by rw [T.get_e] at h; cases h) hy
        | global g => simp [val] at hy
      have hguard : ∀ j want, o.guard = some (j, want) → ∀ d, (ops[j]?).bind (·.dst) = some d → ∀ y, tm.get d = some y → VR G w (a.tmps.getD d undef) y :=
        fun j want hg d hd y hy => D.vals d y hy (hslots d (looks_guard ho hg hd))
      have idlt : ∀ u ∈ U, ∀ id, u.id = some id → id < h.nx := by
        intro u hu id e
        obtain ⟨⟨_, _, _, _, _, h4⟩, _⟩ := D.pds u hu
        rcases h4 with ⟨c1, _⟩ | ⟨c1, _⟩ | ⟨id', _, _, c1, _, _, c4, _⟩
        · rw [c1] at e; cases e
        · rw [c1] at e; cases e
        · rw [c1] at e
          simp only [Option.some.injEq] at e
          omega
      -- behind it
      have next : ∀ {G' : Gh} {w' : World} {V : Value} {v : AV}, Inv G' w' g1 → Ext G w h G' w' g1 → VR G' w' V v → putTm n o.dst v tm = some tm1 → K (a.put o.dst V) w' := by
        intro G' w' V v I' E' hV hput
        obtain ⟨g_ne, g_eq⟩ := putTm_get hput
        refine hK G' w' g1 tm1 _ ⟨I', by rw [size_put]; exact D.sz, by rw [Array.size_setIfInBounds]; exact D.lsz, D.down.set hib hdeps, fun t y hy hne => ?_, fun j => ?_, fun u hu => ?_, fun u hu id e => ?_, ⟨Nat.le_trans D.nxl.1 E'.nx, D.nxl.2⟩, D.idn⟩ (E'.weak D.nxl.1) (Act.defers_put a _ V) he
        · by_cases hd : o.dst = some t
          · obtain ⟨h2, h3⟩ := g_eq t hd
            rw [h3] at hy
            simp only [Option.some.injEq] at hy
            subst hy
            rw [hd, getD_put_same (by rw [D.sz]; exact h2)]
            exact hV
          · rw [getD_put hd]
            rw [g_ne t hd] at hy
            exact (D.vals t y hy hne).mono E'
        · rw [set_getD hib, D.lst j]
          constructor
          · rintro (rfl | ⟨⟨p, hp, e⟩, h2⟩)
            · refine ⟨⟨q, by simp, rfl⟩, fun u hu e => ?_⟩
              obtain ⟨_, _, _, _, hne⟩ := hprs u hu
              exact hne e
            · exact ⟨⟨p, by simp [hp], e⟩, h2⟩
          · rintro ⟨⟨p, hp, e⟩, h2⟩
            rcases List.mem_append.1 hp with hp | hp
            · exact .inr ⟨⟨p, hp, e⟩, h2⟩
            · simp only [List.mem_singleton] at hp
              subst hp
              exact .inl e.symm
        · obtain ⟨k1, p, hp, k2, k3⟩ := D.pds u hu
          obtain ⟨o1, o2⟩ := hold u hu
          refine ⟨k1.eff (fun t ht => g_ne t (o1 t ht)) (fun d hd => g_ne d (o2 d hd)) E'.nx (fun id e => ?_) (hchk u hu), p, by simp [hp], k2, k3⟩
          obtain ⟨c1, c2⟩ := D.ids u hu id e
          exact (E'.unm id (idlt u hu id e) c1 c2).1
        · obtain ⟨c1, c2⟩ := D.ids u hu id e
          obtain ⟨_, c3, c4⟩ := E'.unm id (idlt u hu id e) c1 c2
          exact ⟨c3, c4⟩
      unfold wpOp
      rw [ho]
      simp only
      rcases evOne_some h1 with ⟨a1, a2, rfl⟩ | ⟨v, a1, a2, a3⟩
      · rw [wanted_eq hguard a1]
        simp only [Bool.false_eq_true, if_false]
        exact next D.inv (Ext.refl G w _) (undef_VR G w) a2
      · rw [wanted_eq hguard a1]
        simp only [if_true]
        exact .inl (hA G w h tm a o v g1 D.inv hvals a2 K Q fun G' w' V I' E' hV => next I' E' hV a3)

theorem count_set : ∀ (l : List Bool) (k : Nat), l[k]? = some false → ((l.set k true).filter (· == false)).length + 1 = (l.filter (· == false)).length
  | [], k, hk => by simp at hk
  | b :: l, 0, hk => by simp at hk; subst hk; simp
  | b :: l, k + 1, hk => by
    simp at hk
    have := count_set l k hk
    cases b <;> simp_all

theorem all_listed {G : Gh} {w : World} {h : H} {tm : Tm} {a : Act} {listed : Array Bool} {done : List PE} {U : List Pd} (PP : PlanP ops pl m)
    (D : DR ty n nx0 ops G w h tm a listed done U) (hr : Region.ready .any ops listed = []) : ∀ i, i < ops.size → listed.getD i false = true := by
  have key : ∀ (B A : List PE), pl = A ++ B → (∀ p ∈ A, listed.getD p.i false = true) → ∀ p ∈ B, listed.getD p.i false = true := by
    intro B
    induction B with
    | nil => intro A _ _ p hp; simp at hp
    | cons q B ih =>
      intro A hAB hA' p hp
      have hq : listed.getD q.i false = true := by
        cases hl : listed.getD q.i false with
        | true => rfl
        | false =>
          have hlt := PP.range q (by rw [hAB]; simp)
          obtain ⟨o, ho⟩ : ∃ o, ops[q.i]? = some o := ⟨_, Array.getElem?_eq_getElem hlt⟩
          have hmem : q.i ∈ Region.ready .any ops listed := by
            refine mem_ready.2 ⟨?_, o, ho, fun e he hb => ?_⟩
            · have : q.i < listed.size := by rw [D.lsz]; exact hlt
              rw [Array.getD_eq_getD_getElem?, Array.getElem?_eq_getElem this] at hl ⊢
              exact hl
            · have hd : e.on ∈ depsOf ops q.i := by
                simp only [depsOf, ho, List.mem_map, List.mem_filter]
                exact ⟨e, ⟨by simpa using he, hb⟩, rfl⟩
              obtain ⟨p', hp', e'⟩ := PP.topo A q B hAB e.on hd
              rw [← e']
              exact hA' p' hp'
          rw [hr] at hmem
          simp at hmem
      rcases List.mem_cons.1 hp with rfl | hp
      · exact hq
      · refine ih (A ++ [q]) (by rw [hAB]; simp) (fun p' hp' => ?_) p hp
        rcases List.mem_append.1 hp' with h | h
        · exact hA' p' h
        · simp only [List.mem_singleton] at h
          subst h
          exact hq
  intro i hi
  obtain ⟨p, hp, rfl⟩ := PP.cover i hi
  exact key pl [] rfl (fun p hp => by simp at hp) p hp

theorem all_done {G : Gh} {w : World} {h : H} {tm : Tm} {a : Act} {listed : Array Bool} {done rest : List PE} {U : List Pd} (PP : PlanP ops pl m) (hpl : pl = done ++ rest)
    (D : DR ty n nx0 ops G w h tm a listed done U) (hall : ∀ i, i < ops.size → listed.getD i false = true) : rest = [] ∧ U = [] := by
  constructor
  · cases rest with
    | nil => rfl
    | cons q r =>
      have hq := hall q.i (PP.range q (by rw [hpl]; simp))
      obtain ⟨⟨p, hp, e⟩, _⟩ := (D.lst q.i).1 hq
      obtain ⟨A, B, hAB⟩ := List.append_of_mem hp
      exact absurd e.symm (PP.pair A p (B ++ q :: r) (by rw [hpl, hAB]; simp) q (by simp)).2
  · cases U with
    | nil => rfl
    | cons u U =>
      obtain ⟨⟨o, v, ho, _⟩, _⟩ := D.pds u (by simp)
      have := (D.lst u.i).1 (hall u.i (Array.getElem?_eq_some_iff.1 ho).1)
      exact absurd rfl (this.2 u (by simp))

theorem draw_any (hA : ActOk P ty call) (hN : AllocOk P ty) (PP : PlanP ops pl (preM ops pl .e)) {res : Tm × H} {G0 : Gh} {w0 : World} {h0 : H} {df : List Deferred} {Q : Exit → Act → World → Prop}
    (hQ : ∀ G' w' a', Inv G' w' res.2 → Ext G0 w0 h0 G' w' res.2 → TmR G' w' n res.1 a' → a'.defers = df → Q .normal a' w') :
    ∀ (fuel : Nat) {G : Gh} {w : World} {h : H} {tm : Tm} {a : Act} {listed : Array Bool} {done rest : List PE} {U : List Pd},
      pl = done ++ rest → Norm rest → DR ty n h0.nx ops G w h tm a listed done U → Ext G0 w0 h0 G w h → a.defers = df → evPlan call ty n ops rest tm h = some res →
      (listed.toList.filter (· == false)).length ≤ fuel → wpAny P .any ops Q fuel listed a w := by
  intro fuel
  have hfin : ∀ {G : Gh} {w : World} {h : H} {tm : Tm} {a : Act} {listed : Array Bool} {done rest : List PE} {U : List Pd},
      pl = done ++ rest → DR ty n h0.nx ops G w h tm a listed done U → Ext G0 w0 h0 G w h → a.defers = df → evPlan call ty n ops rest tm h = some res → (∀ i, i < ops.size → listed.getD i false = true) → Q .normal a w := by
    intro G w h tm a listed done rest U hpl D E hdf he hall
    obtain ⟨rfl, rfl⟩ := all_done PP hpl D hall
    simp only [evPlan, Option.some.injEq] at he
    subst he
    exact hQ G w a D.inv E ⟨D.sz, fun t v ht => D.vals t v ht fun u hu => by simp at hu⟩ hdf
  induction fuel with
  | zero =>
    intro G w h tm a listed done rest U hpl hn D E hdf he hc
    have hall : ∀ i, i < ops.size → listed.getD i false = true := by
      intro i hi
      have hz : listed.toList.filter (· == false) = [] := List.eq_nil_of_length_eq_zero (by omega)
      have hlt : i < listed.size := by rw [D.lsz]; exact hi
      have h1 : listed[i] ∉ listed.toList.filter (· == false) := by rw [hz]; simp
      rw [Array.getD_eq_getD_getElem?, Array.getElem?_eq_getElem hlt]
      show listed[i] = true
      cases hb : listed[i] with
      | true => rfl
      | false => exact absurd (List.mem_filter.2 ⟨by simp, by rw [hb]; rfl⟩) h1
    refine ⟨?_, hfin hpl D E hdf he hall⟩
    apply List.eq_nil_iff_forall_not_mem.2
    intro i hi
    obtain ⟨h1, h2, _⟩ := ready_spec hi
    rw [hall i (by rw [← D.lsz]; exact h2)] at h1
    cases h1
  | succ fuel ih =>
    intro G w h tm a listed done rest U hpl hn D E hdf he hc
    refine ⟨fun hr => hfin hpl D E hdf he (all_listed PP D hr), fun i hi => ?_⟩
    obtain ⟨hil, hib, o, ho, hdeps⟩ := ready_spec hi
    have hcount : ((listed.setIfInBounds i true).toList.filter (· == false)).length ≤ fuel := by
      have e : listed[i] = false := by
        rw [Array.getD_eq_getD_getElem?, Array.getElem?_eq_getElem hib] at hil
        exact hil
      have := count_set listed.toList i (by rw [Array.getElem?_toList, Array.getElem?_eq_getElem hib, e])
      rw [Array.toList_setIfInBounds]
      omega
    by_cases hU : ∃ u ∈ U, u.i = i
    · obtain ⟨u, hu, rfl⟩ := hU
      exact D.pending hA hN PP hpl hu hi Q _ fun G' w' a' U' D' E' hd' => ih hpl hn D' (E.cut.trans E') (hd'.trans hdf) he hcount
    · cases rest with
      | nil =>
        obtain ⟨p, hp, e⟩ := PP.cover i (Array.getElem?_eq_some_iff.1 ho).1
        rw [hpl, List.append_nil] at hp
        have := (D.lst i).2 ⟨⟨p, hp, e⟩, fun u hu e2 => hU ⟨u, hu, e2⟩⟩
        rw [hil] at this
        cases this
      | cons q r =>
        have hq : q.eff = true := hn
        have hiq : i = q.i := by
          obtain ⟨p, hp, e⟩ := PP.cover i (Array.getElem?_eq_some_iff.1 ho).1
          rw [hpl] at hp
          rcases List.mem_append.1 hp with hp | hp
          · have := (D.lst i).2 ⟨⟨p, hp, e⟩, fun u hu e2 => hU ⟨u, hu, e2⟩⟩
            rw [hil] at this
            cases this
          · rcases List.mem_cons.1 hp with rfl | hp
            · exact e.symm
            · obtain ⟨k1, k2⟩ := PP.pair done q r hpl p hp
              simp only [pairOk, Bool.and_eq_true, Bool.or_eq_true, Bool.not_eq_true', hq, Bool.true_eq_false, false_or] at k1
              have := pre_listed D.down hi (by rw [← e]; exact k1.1) (by rw [← e]; exact fun e2 => k2 e2.symm)
              obtain ⟨⟨p', hp', e'⟩, _⟩ := (D.lst q.i).1 this
              obtain ⟨A, B, hAB⟩ := List.append_of_mem hp'
              exact absurd e'.symm (PP.pair A p' (B ++ q :: r) (by rw [hpl, hAB]; simp) q (by simp)).2
        subst hiq
        refine D.acts hA PP hpl hq hi he Q _ fun G' w' h' tm' a' D' E' hd' he' => ?_
        obtain ⟨done', rest', tm2, h2, U2, k1, k2, k3, k4, k5, k6⟩ := DR.normal PP r (by rw [hpl]; simp) D' he'
        exact ih k1 k2 k3 ((E.cut.trans E').more k5 k6) (hd'.trans hdf) k4 hcount

theorem draw_sim0 (hA : ActOk P ty call) (hN : AllocOk P ty) (hp : planOk ops pl = true) {G : Gh} {w : World} {h : H} {tm : Tm} {a : Act} (I : Inv G w h) (T : TmR G w n tm a)
    {res : Tm × H} (he : evPlan call ty n ops pl tm h = some res) (Q : Exit → Act → World → Prop)
    (hQ : ∀ G' w' a', Inv G' w' res.2 → Ext G w h G' w' res.2 → TmR G' w' n res.1 a' → a'.defers = a.defers → Q .normal a' w') : wpAny P .any ops Q ops.size (Array.replicate ops.size false) a w.drew := by
  have PP := planOk_spec hp
  have D0 : DR ty n h.nx ops G w.drew h tm a (Array.replicate ops.size false) [] [] := by
    refine ⟨drew_inv I, T.size, by simp, fun i hi => ?_, fun t v ht _ => (T.val t v ht).mono (drew_ext G w h), fun i => ?_, fun u hu => by simp at hu, fun u hu => by simp at hu, ⟨Nat.le_refl _, fun u hu => by simp at hu⟩, fun u hu => by simp at hu⟩
    · have : (Array.replicate ops.size false).getD i false = false := by
        rw [Array.getD_eq_getD_getElem?, Array.getElem?_replicate]
        split <;> rfl
      rw [this] at hi; cases hi
    · have : (Array.replicate ops.size false).getD i false = false := by
        rw [Array.getD_eq_getD_getElem?, Array.getElem?_replicate]
        split <;> rfl
      rw [this]
      constructor
      · intro e; cases e
      · rintro ⟨⟨p, hp, _⟩, _⟩; simp at hp
  obtain ⟨done', rest', tm2, h2, U2, k1, k2, k3, k4, k5, k6⟩ := DR.normal PP pl rfl D0 he
  refine draw_any (h0 := h) (G0 := G) (w0 := w) hA hN PP (fun G' w' a' I' E' T' hd => hQ G' w' a' I' E' T' hd) ops.size k1 k2 k3 ((drew_ext G w h).more k5 k6) rfl k4 ?_
  simp
/-- A region that draws its order. -/
theorem draw_sim (hA : ActOk P ty call) (hN : AllocOk P ty) (hm : P.follows .mixedOrders = true) (hp : planOk ops pl = true) {G : Gh} {w : World} {h : H} {tm : Tm} {a : Act} (I : Inv G w h) (T : TmR G w n tm a)
    {res : Tm × H} (he : evPlan call ty n ops pl tm h = some res) (id : Nat) (Q : Exit → Act → World → Prop)
    (hQ : ∀ G' w' a', Inv G' w' res.2 → Ext G w h G' w' res.2 → TmR G' w' n res.1 a' → a'.defers = a.defers → Q .normal a' w') : (Code.region id ops true).wp P Q a w :=
  wp_region_any hm (draw_sim0 hA hN hp I T he Q hQ)
end
end Go.Ev
