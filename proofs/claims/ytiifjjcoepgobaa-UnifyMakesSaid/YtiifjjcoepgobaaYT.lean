/- Two ways to say things of vars, one resolved, one not: they make the same. Plain. -/
import Derived.Test.YtiifjjcoepgobaaYO
set_option autoImplicit false
set_option maxRecDepth 100000
set_option linter.unusedSimpArgs false
set_option linter.unusedVariables false
set_option linter.unusedSectionVars false
namespace Go.Proofs.Ytiifjjcoepgobaa.Env
open Go.Ev

def roF : Nat → Sd → Ty → Option Ty
  | 0, _, _ => none
  | f + 1, sd, .mk o n ks => bif natsBeq o varS then (match look sd n with
      | none => some (.mk o n ks)
      | some u => roF f sd u)
    else (match all0 (roF f sd) ks with
      | none => none
      | some us => some (.mk o n us))
theorem roF_mono : ∀ {f g : Nat} {sd : Sd} {t u : Ty}, f ≤ g → roF f sd t = some u → roF g sd t = some u
  | 0, _, _, _, _, _, h => by simp [roF] at h
  | f + 1, 0, _, _, _, hg, _ => by omega
  | f + 1, g + 1, sd, .mk o n ks, u, hg, h => by
    simp only [roF] at h ⊢
    cases hv : natsBeq o varS with
    | true =>
      rw [hv] at h
      simp only [cond_true] at h ⊢
      cases hl : look sd n with
      | none => rw [hl] at h; exact h
      | some w => rw [hl] at h; exact roF_mono (by omega) h
    | false =>
      rw [hv] at h
      simp only [cond_false] at h ⊢
      cases ha : all0 (roF f sd) ks with
      | none => rw [ha] at h; simp at h
      | some us =>
        rw [ha] at h
        rw [all0_mono (fun a b e => roF_mono (by omega) e) ha]
        exact h
def Ro (sd : Sd) (t u : Ty) : Prop := ∃ f, roF f sd t = some u
def RoL (sd : Sd) (l us : List Ty) : Prop := ∃ f, all0 (roF f sd) l = some us
theorem Ro.uniq {sd : Sd} {t u u' : Ty} (a : Ro sd t u) (b : Ro sd t u') : u = u' := by
  obtain ⟨f, hf⟩ := a
  obtain ⟨g, hg⟩ := b
  have h1 := roF_mono (Nat.le_max_left f g) hf
  rw [roF_mono (Nat.le_max_right f g) hg] at h1
  exact (Option.some.inj h1).symm
theorem RoL.nil (sd : Sd) : RoL sd [] [] := ⟨0, rfl⟩
theorem RoL.cons {sd : Sd} {t u : Ty} {l us : List Ty} (a : Ro sd t u) (b : RoL sd l us) : RoL sd (t :: l) (u :: us) := by
  obtain ⟨f, hf⟩ := a
  obtain ⟨g, hg⟩ := b
  refine ⟨max f g, ?_⟩
  simp only [all0, roF_mono (Nat.le_max_left f g) hf]
  rw [all0_mono (fun a b e => roF_mono (Nat.le_max_right f g) e) hg]
theorem RoL.inv {sd : Sd} {t : Ty} {l us : List Ty} (a : RoL sd (t :: l) us) : ∃ u us', us = u :: us' ∧ Ro sd t u ∧ RoL sd l us' := by
  obtain ⟨f, hf⟩ := a
  simp only [all0] at hf
  cases h1 : roF f sd t with
  | none => rw [h1] at hf; simp at hf
  | some u =>
    rw [h1] at hf
    cases h2 : all0 (roF f sd) l with
    | none => rw [h2] at hf; simp at hf
    | some us' =>
      rw [h2] at hf
      simp only [Option.some.injEq] at hf
      exact ⟨u, us', hf.symm, ⟨f, h1⟩, ⟨f, h2⟩⟩
theorem RoL.inv0 {sd : Sd} {us : List Ty} (a : RoL sd [] us) : us = [] := by
  obtain ⟨f, hf⟩ := a
  simp only [all0, Option.some.injEq] at hf
  exact hf.symm
theorem RoL.length {sd : Sd} : ∀ {l us : List Ty}, RoL sd l us → us.length = l.length
  | [], us, h => by rw [h.inv0]
  | t :: l, us, h => by
    obtain ⟨u, us', rfl, _, h2⟩ := h.inv
    simp [h2.length]
theorem Ro.unb {sd : Sd} {o : List Nat} {n : Int} {ks : List Ty} (hv : natsBeq o varS = true) (hl : look sd n = none) : Ro sd (.mk o n ks) (.mk o n ks) := ⟨1, by simp [roF, hv, hl]⟩
theorem Ro.bnd {sd : Sd} {o : List Nat} {n : Int} {ks : List Ty} {w u : Ty} (hv : natsBeq o varS = true) (hl : look sd n = some w) (h : Ro sd w u) : Ro sd (.mk o n ks) u := by
  obtain ⟨f, hf⟩ := h
  exact ⟨f + 1, by simp [roF, hv, hl, hf]⟩
theorem Ro.node {sd : Sd} {o : List Nat} {n : Int} {ks us : List Ty} (hv : natsBeq o varS = false) (h : RoL sd ks us) : Ro sd (.mk o n ks) (.mk o n us) := by
  obtain ⟨f, hf⟩ := h
  exact ⟨f + 1, by simp [roF, hv, hf]⟩
theorem Ro.node_inv {sd : Sd} {o : List Nat} {n : Int} {ks : List Ty} {u : Ty} (hv : natsBeq o varS = false) (h : Ro sd (.mk o n ks) u) : ∃ us, u = .mk o n us ∧ RoL sd ks us := by
  obtain ⟨f, hf⟩ := h
  cases f with
  | zero => simp [roF] at hf
  | succ f =>
    simp only [roF, hv, cond_false] at hf
    cases ha : all0 (roF f sd) ks with
    | none => rw [ha] at hf; simp at hf
    | some us => rw [ha] at hf; simp only [Option.some.injEq] at hf; exact ⟨us, hf.symm, f, ha⟩
theorem Ro.bnd_inv {sd : Sd} {o : List Nat} {n : Int} {ks : List Ty} {w u : Ty} (hv : natsBeq o varS = true) (hl : look sd n = some w) (h : Ro sd (.mk o n ks) u) : Ro sd w u := by
  obtain ⟨f, hf⟩ := h
  cases f with
  | zero => simp [roF] at hf
  | succ f => simp only [roF, hv, cond_true, hl] at hf; exact ⟨f, hf⟩
theorem Ro.unb_inv {sd : Sd} {o : List Nat} {n : Int} {ks : List Ty} {u : Ty} (hv : natsBeq o varS = true) (hl : look sd n = none) (h : Ro sd (.mk o n ks) u) : u = .mk o n ks := h.uniq (Ro.unb hv hl)

/-! ### Well made types -/
def okT (t : Ty) : Prop := eachF t = true ∧ fit t
def okL (l : List Ty) : Prop := ∀ t ∈ l, okT t
def okS (sd : Sd) : Prop := ∀ p ∈ sd, okT p.2
theorem eachL_mem : ∀ {l : List Ty}, eachL l = true ↔ ∀ t ∈ l, eachF t = true
  | [] => by simp [eachL]
  | t :: l => by simp [eachL, eachL_mem (l := l)]
theorem okT.kids {o : List Nat} {n : Int} {ks : List Ty} (h : okT (.mk o n ks)) : okL ks := fun t ht =>
  ⟨eachL_mem.1 (each_kids h.1) t ht, fits_mem.1 (by have := h.2; simp only [fit] at this; exact this.2.2) t ht⟩
theorem okT.same {o : List Nat} {n : Int} {ks us : List Ty} (h : okT (.mk o n ks)) (hl : us.length = ks.length) (hu : okL us) : okT (.mk o n us) := by
  obtain ⟨h1, h2⟩ := h
  simp only [eachF, Bool.and_eq_true] at h1
  simp only [fit] at h2
  refine ⟨?_, ?_⟩
  · simp only [eachF, Bool.and_eq_true]
    exact ⟨by rw [hl]; exact h1.1, h1.2.1, h1.2.2.1, eachL_mem.2 fun t ht => (hu t ht).1⟩
  · simp only [fit]
    exact ⟨by rw [hl]; exact h2.1, h2.2.1, fits_mem.2 fun t ht => (hu t ht).2⟩
theorem okS.look {sd : Sd} (h : okS sd) {n : Int} {u : Ty} (hl : look sd n = some u) : okT u := by
  obtain ⟨p, h1, h2⟩ := look_mem hl
  rw [← h2]; exact h p h1
mutual
theorem ro_ok {sd : Sd} (hs : okS sd) : ∀ {f : Nat} {t u : Ty}, roF f sd t = some u → okT t → okT u
  | 0, _, _, h, _ => by simp [roF] at h
  | f + 1, .mk o n ks, u, h, ht => by
    simp only [roF] at h
    cases hv : natsBeq o varS with
    | true =>
      rw [hv] at h
      simp only [cond_true] at h
      cases hl : look sd n with
      | none => rw [hl] at h; simp only [Option.some.injEq] at h; rw [← h]; exact ht
      | some w => rw [hl] at h; exact ro_ok hs h (hs.look hl)
    | false =>
      rw [hv] at h
      simp only [cond_false] at h
      cases ha : all0 (roF f sd) ks with
      | none => rw [ha] at h; simp at h
      | some us =>
        rw [ha] at h
        simp only [Option.some.injEq] at h
        rw [← h]
        obtain ⟨h1, h2⟩ := roL_ok hs ha ht.kids
        exact ht.same h1 h2
theorem roL_ok {sd : Sd} (hs : okS sd) : ∀ {f : Nat} {l us : List Ty}, all0 (roF f sd) l = some us → okL l → us.length = l.length ∧ okL us
  | f, [], us, h, _ => by simp only [all0, Option.some.injEq] at h; rw [← h]; exact ⟨rfl, fun t ht => by simp at ht⟩
  | f, t :: l, us, h, hl => by
    simp only [all0] at h
    cases h1 : roF f sd t with
    | none => rw [h1] at h; simp at h
    | some u =>
      rw [h1] at h
      cases h2 : all0 (roF f sd) l with
      | none => rw [h2] at h; simp at h
      | some us' =>
        rw [h2] at h
        simp only [Option.some.injEq] at h
        rw [← h]
        obtain ⟨k1, k2⟩ := roL_ok hs h2 (fun t ht => hl t (List.mem_cons_of_mem _ ht))
        refine ⟨by simp [k1], fun x hx => ?_⟩
        rcases List.mem_cons.1 hx with rfl | hx
        · exact ro_ok hs h1 (hl t (List.mem_cons_self ..))
        · exact k2 x hx
end
theorem Ro.ok {sd : Sd} (hs : okS sd) {t u : Ty} (h : Ro sd t u) (ht : okT t) : okT u := by obtain ⟨f, hf⟩ := h; exact ro_ok hs hf ht
mutual
theorem ro_unb {sd : Sd} (n : Int) : ∀ {f : Nat} {t u : Ty}, roF f sd t = some u → occF n u = true → look sd n = none
  | 0, _, _, h, _ => by simp [roF] at h
  | f + 1, .mk o v ks, u, h, hu => by
    simp only [roF] at h
    cases hv : natsBeq o varS with
    | true =>
      rw [hv] at h
      simp only [cond_true] at h
      cases hl : look sd v with
      | none =>
        rw [hl] at h
        simp only [Option.some.injEq] at h
        rw [← h] at hu
        simp only [occF, hv, cond_true] at hu
        rw [← intBeq_iff.1 hu]; exact hl
      | some w => rw [hl] at h; exact ro_unb n h hu
    | false =>
      rw [hv] at h
      simp only [cond_false] at h
      cases ha : all0 (roF f sd) ks with
      | none => rw [ha] at h; simp at h
      | some us =>
        rw [ha] at h
        simp only [Option.some.injEq] at h
        rw [← h] at hu
        simp only [occF, hv, cond_false] at hu
        exact roL_unb n ha hu
theorem roL_unb {sd : Sd} (n : Int) : ∀ {f : Nat} {l us : List Ty}, all0 (roF f sd) l = some us → occL n us = true → look sd n = none
  | f, [], us, h, hu => by simp only [all0, Option.some.injEq] at h; rw [← h] at hu; simp [occL] at hu
  | f, t :: l, us, h, hu => by
    simp only [all0] at h
    cases h1 : roF f sd t with
    | none => rw [h1] at h; simp at h
    | some u =>
      rw [h1] at h
      cases h2 : all0 (roF f sd) l with
      | none => rw [h2] at h; simp at h
      | some us' =>
        rw [h2] at h
        simp only [Option.some.injEq] at h
        rw [← h] at hu
        simp only [occL, Bool.or_eq_true] at hu
        rcases hu with hu | hu
        · exact ro_unb n h1 hu
        · exact roL_unb n h2 hu
end
mutual
/-- What has none of the said vars stays. -/
theorem ro_self {sd : Sd} : ∀ {u : Ty}, (∀ n, occF n u = true → look sd n = none) → Ro sd u u
  | .mk o v ks, h => by
    cases hv : natsBeq o varS with
    | true => exact Ro.unb hv (h v (by simp [occF, hv, intBeq_iff.2 (rfl : v = v)]))
    | false => exact Ro.node hv (roL_self fun n hn => h n (by simpa [occF, hv] using hn))
theorem roL_self {sd : Sd} : ∀ {l : List Ty}, (∀ n, occL n l = true → look sd n = none) → RoL sd l l
  | [], _ => RoL.nil sd
  | t :: l, h => RoL.cons (ro_self fun n hn => h n (by simp [occL, hn])) (roL_self fun n hn => h n (by simp [occL, hn]))
end
/-! ### From one way to the other -/
mutual
theorem ro_of {sd : Sd} (hs : okS sd) : ∀ {f : Nat} {t u : Ty}, roF f sd t = some u → okT t → ∃ g, ofF g sd t = some u
  | 0, _, _, h, _ => by simp [roF] at h
  | f + 1, .mk o n ks, u, h, ht => by
    simp only [roF] at h
    cases hv : natsBeq o varS with
    | true =>
      rw [hv] at h
      simp only [cond_true] at h
      cases hl : look sd n with
      | none =>
        rw [hl] at h
        simp only [Option.some.injEq] at h
        obtain rfl := each_var ht.1 hv
        refine ⟨2, ?_⟩
        have hh : headF 1 sd (.mk o n []) = some (.mk o n []) := by simp [headF, hv, hl]
        rw [ofF, hh]
        simpa [all0] using h
      | some w =>
        rw [hl] at h
        obtain ⟨g, hg⟩ := ro_of hs h (hs.look hl)
        cases g with
        | zero => simp [ofF] at hg
        | succ g =>
          refine ⟨g + 2, ?_⟩
          have hh : headF (g + 1) sd (.mk o n ks) = headF g sd w := by rw [headF, hv, cond_true, hl]
          have e := ofF_mono (Nat.le_succ (g + 1)) hg
          show ofF ((g + 1) + 1) sd _ = _
          rw [ofF] at hg ⊢
          rw [hh]
          cases h1 : headF g sd w with
          | none => rw [h1] at hg; simp at hg
          | some x =>
            obtain ⟨xo, xn, xk⟩ := x
            rw [h1] at hg
            simp only at hg ⊢
            cases h2 : all0 (ofF g sd) xk with
            | none => rw [h2] at hg; simp at hg
            | some us => rw [h2] at hg; rw [all0_mono (fun a b e => ofF_mono (Nat.le_succ g) e) h2]; exact hg
    | false =>
      rw [hv] at h
      simp only [cond_false] at h
      cases ha : all0 (roF f sd) ks with
      | none => rw [ha] at h; simp at h
      | some us =>
        rw [ha] at h
        simp only [Option.some.injEq] at h
        obtain ⟨g, hg⟩ := roL_of hs ha ht.kids
        refine ⟨g + 2, ?_⟩
        show ofF ((g + 1) + 1) sd _ = _
        rw [ofF, headF_nv hv]
        simp only
        rw [all0_mono (fun a b e => ofF_mono (Nat.le_succ g) e) hg, ← h]
theorem roL_of {sd : Sd} (hs : okS sd) : ∀ {f : Nat} {l us : List Ty}, all0 (roF f sd) l = some us → okL l → ∃ g, all0 (ofF g sd) l = some us
  | f, [], us, h, _ => ⟨0, by simpa [all0] using h⟩
  | f, t :: l, us, h, hl => by
    simp only [all0] at h
    cases h1 : roF f sd t with
    | none => rw [h1] at h; simp at h
    | some u =>
      rw [h1] at h
      cases h2 : all0 (roF f sd) l with
      | none => rw [h2] at h; simp at h
      | some us' =>
        rw [h2] at h
        simp only [Option.some.injEq] at h
        obtain ⟨g1, k1⟩ := ro_of hs h1 (hl t (List.mem_cons_self ..))
        obtain ⟨g2, k2⟩ := roL_of hs h2 (fun t ht => hl t (List.mem_cons_of_mem _ ht))
        refine ⟨max g1 g2, ?_⟩
        simp only [all0, ofF_mono (Nat.le_max_left g1 g2) k1]
        rw [all0_mono (fun a b e => ofF_mono (Nat.le_max_right g1 g2) e) k2, ← h]
end
theorem Ro.of {sd : Sd} (hs : okS sd) {t u : Ty} (h : Ro sd t u) (ht : okT t) : ∃ g, ofF g sd t = some u := by obtain ⟨f, hf⟩ := h; exact ro_of hs hf ht
/-- The head. -/
theorem ro_head {sd : Sd} (hs : okS sd) : ∀ {f : Nat} {t u : Ty}, roF f sd t = some u → okT t → ∃ g o n ks, headF g sd t = some (.mk o n ks) ∧ okT (.mk o n ks) ∧ Ro sd (.mk o n ks) u ∧
    ((natsBeq o varS = true ∧ ks = [] ∧ look sd n = none ∧ u = .mk o n []) ∨ (natsBeq o varS = false ∧ ∃ us, u = .mk o n us ∧ RoL sd ks us))
  | 0, _, _, h, _ => by simp [roF] at h
  | f + 1, .mk o n ks, u, h, ht => by
    have hro : Ro sd (.mk o n ks) u := ⟨_, h⟩
    simp only [roF] at h
    cases hv : natsBeq o varS with
    | true =>
      rw [hv] at h
      simp only [cond_true] at h
      cases hl : look sd n with
      | none =>
        rw [hl] at h
        simp only [Option.some.injEq] at h
        obtain rfl := each_var ht.1 hv
        exact ⟨1, o, n, [], by simp [headF, hv, hl], ht, hro, .inl ⟨hv, rfl, hl, h.symm⟩⟩
      | some w =>
        rw [hl] at h
        obtain ⟨g, o', n', ks', h1, h2, h3, h4⟩ := ro_head hs h (hs.look hl)
        exact ⟨g + 1, o', n', ks', by rw [headF, hv, cond_true, hl]; exact h1, h2, h3, h4⟩
    | false =>
      obtain ⟨us, h1, h2⟩ := hro.node_inv hv
      exact ⟨1, o, n, ks, headF_nv hv, ht, hro, .inr ⟨hv, us, h1, h2⟩⟩
end Go.Proofs.Ytiifjjcoepgobaa.Env
/- Has a var; saying one more thing. Plain. -/
set_option autoImplicit false
set_option maxRecDepth 100000
set_option linter.unusedSimpArgs false
set_option linter.unusedVariables false
set_option linter.unusedSectionVars false
namespace Go.Proofs.Ytiifjjcoepgobaa.Env
open Go.Ev

theorem least {p : Nat → Prop} : ∀ {n : Nat}, p n → ∃ m, m ≤ n ∧ p m ∧ ∀ k, k < m → ¬ p k := by
  intro n
  induction n using Nat.strongRecOn with
  | ind n ih =>
    intro hp
    by_cases h : ∃ k, k < n ∧ p k
    · obtain ⟨k, hk, hpk⟩ := h
      obtain ⟨m, h1, h2, h3⟩ := ih k hk hpk
      exact ⟨m, by omega, h2, h3⟩
    · exact ⟨n, Nat.le_refl _, hp, fun k hk hpk => h ⟨k, hk, hpk⟩⟩
section
variable {sd : Sd} {x : Int} (hx : look sd x = none)
def Clean (sd : Sd) (x v : Int) : Prop := ∀ w u, look sd v = some w → Ro sd w u → occF x u = false
def Seen (sd : Sd) (x : Int) (f : Nat) (seen : List Int) : Prop := ∀ v, hasI seen v = true → Clean sd x v ∨ ∀ k, k < f → ∀ w, look sd v = some w → roF k sd w = none
def HasP (sd : Sd) (x : Int) (f : Nat) : Prop := ∀ t u seen, roF f sd t = some u → Seen sd x f seen →
    ∃ d s, hasF d sd x seen t = some (occF x u, s) ∧ (occF x u = false → ∀ v, hasI s v = true → hasI seen v = true ∨ Clean sd x v)
theorem Seen.le {f g : Nat} {seen : List Int} (hg : g ≤ f) (h : Seen sd x f seen) : Seen sd x g seen := fun v hv => by
  rcases h v hv with c | b
  · exact .inl c
  · exact .inr fun k hk => b k (by omega)
theorem hasL_ro {f : Nat} (hP : HasP sd x f) : ∀ (l us : List Ty) (seen : List Int), all0 (roF f sd) l = some us → Seen sd x f seen →
    ∃ d s, anyF (hasF d sd x) seen l = some (occL x us, s) ∧ (occL x us = false → ∀ v, hasI s v = true → hasI seen v = true ∨ Clean sd x v)
  | [], us, seen, h, hs => by
    simp only [all0, Option.some.injEq] at h
    rw [← h]
    exact ⟨0, seen, rfl, fun _ v hv => .inl hv⟩
  | t :: l, us, seen, h, hs => by
    simp only [all0] at h
    cases h1 : roF f sd t with
    | none => rw [h1] at h; simp at h
    | some u =>
      rw [h1] at h
      cases h2 : all0 (roF f sd) l with
      | none => rw [h2] at h; simp at h
      | some us' =>
        rw [h2] at h
        simp only [Option.some.injEq] at h
        rw [← h]
        obtain ⟨d1, s1, k1, k2⟩ := hP t u seen h1 hs
        cases ho : occF x u with
        | true =>
          rw [ho] at k1
          refine ⟨d1, s1, ?_, fun e => ?_⟩
          · simp [anyF, k1, occL, ho]
          · simp [occL, ho] at e
        | false =>
          rw [ho] at k1
          obtain ⟨d2, s2, g1, g2⟩ := hasL_ro hP l us' s1 h2 (fun v hv => by
            rcases k2 ho v hv with c | c
            · exact hs v c
            · exact .inl c)
          refine ⟨max d1 d2, s2, ?_, fun e v hv => ?_⟩
          · simp only [anyF, hasF_mono (Nat.le_max_left d1 d2) k1, occL, ho, Bool.false_or]
            exact anyF_mono (fun s t r e => hasF_mono (Nat.le_max_right d1 d2) e) g1
          · simp only [occL, ho, Bool.false_or] at e
            rcases g2 e v hv with c | c
            · exact k2 ho v c
            · exact .inr c
include hx in
theorem has_ro : ∀ f, HasP sd x f := by
  intro f
  induction f using Nat.strongRecOn with
  | ind f ih =>
    intro t u seen h hs
    cases f with
    | zero => simp [roF] at h
    | succ f =>
      obtain ⟨o, v, ks⟩ := t
      have h' := h
      simp only [roF] at h
      cases hv : natsBeq o varS with
      | true =>
        rw [hv] at h
        simp only [cond_true] at h
        cases hl : look sd v with
        | none =>
          rw [hl] at h
          simp only [Option.some.injEq] at h
          rw [← h]
          exact ⟨1, seen, by simp [hasF, hv, hl, occF], fun _ v hv => .inl hv⟩
        | some w =>
          rw [hl] at h
          simp only at h
          have hvx : intBeq v x = false := by
            cases hb : intBeq v x with
            | false => rfl
            | true => rw [intBeq_iff.1 hb, hx] at hl; cases hl
          cases hse : hasI seen v with
          | true =>
            have ho : occF x u = false := by
              rcases hs v hse with c | b
              · exact c w u hl ⟨f, h⟩
              · rw [b f (Nat.lt_succ_self f) w hl] at h; cases h
            exact ⟨1, seen, by simp [hasF, hv, hl, hse, hvx, ho], fun _ v hv => .inl hv⟩
          | false =>
            obtain ⟨m, h1, h2, h3⟩ := least (p := fun k => ∃ u', roF k sd w = some u') (n := f) ⟨u, h⟩
            obtain ⟨u', hu'⟩ := h2
            obtain rfl := Ro.uniq ⟨m, hu'⟩ ⟨f, h⟩
            obtain ⟨d, s, k1, k2⟩ := ih m (by omega) w u' (seen ++ [v]) hu' (fun y hy => by
              rw [hasI_add] at hy
              simp only [Bool.or_eq_true] at hy
              rcases hy with hy | hy
              · exact hs.le (by omega) y hy
              · obtain rfl := intBeq_iff.1 hy
                refine .inr fun k hk w' hw' => ?_
                rw [hl] at hw'
                cases hw'
                cases hr : roF k sd w with
                | none => rfl
                | some z => exact absurd ⟨z, hr⟩ (h3 k hk))
            refine ⟨d + 1, s, by simp only [hasF, hv, cond_true, hl, hse, cond_false]; exact k1, fun e y hy => ?_⟩
            rcases k2 e y hy with c | c
            · rw [hasI_add] at c
              simp only [Bool.or_eq_true] at c
              rcases c with c | c
              · exact .inl c
              · obtain rfl := intBeq_iff.1 c
                refine .inr fun w' z hw' hz => ?_
                rw [hl] at hw'
                cases hw'
                rw [← Ro.uniq ⟨m, hu'⟩ hz]; exact e
            · exact .inr c
      | false =>
        rw [hv] at h
        simp only [cond_false] at h
        cases ha : all0 (roF f sd) ks with
        | none => rw [ha] at h; simp at h
        | some us =>
          rw [ha] at h
          simp only [Option.some.injEq] at h
          rw [← h]
          obtain ⟨d, s, k1, k2⟩ := hasL_ro (ih f (Nat.lt_succ_self f)) ks us seen ha (hs.le (Nat.le_succ f))
          refine ⟨d + 1, s, ?_, fun e => k2 (by simpa [occF, hv] using e)⟩
          simp only [hasF, hv, cond_false, occF]
          exact k1
include hx in
theorem says_ro {t u : Ty} (h : Ro sd t u) : ∃ d, saysF d sd x t = some (bif occF x u then (false, sd) else (true, sd ++ [(x, t)])) := by
  obtain ⟨f, hf⟩ := h
  obtain ⟨d, s, k1, _⟩ := has_ro hx f t u [] hf (fun v hv => by simp [hasI] at hv)
  refine ⟨d, ?_⟩
  unfold saysF
  rw [k1]
  cases occF x u <;> rfl
end
/-! ### Put for one var -/
mutual
def subF (x : Int) (b : Ty) : Ty → Ty
  | .mk o n ks => bif natsBeq o varS then (bif intBeq n x then b else .mk o n ks) else .mk o n (subL x b ks)
def subL (x : Int) (b : Ty) : List Ty → List Ty
  | [] => []
  | t :: l => subF x b t :: subL x b l
end
theorem subL_map (x : Int) (b : Ty) : ∀ l : List Ty, subL x b l = l.map (subF x b)
  | [] => rfl
  | t :: l => by simp [subL, subL_map x b l]
mutual
theorem sub_id {x : Int} {b : Ty} : ∀ {u : Ty}, occF x u = false → subF x b u = u
  | .mk o n ks, h => by
    simp only [occF] at h
    simp only [subF]
    cases hv : natsBeq o varS with
    | true => rw [hv] at h; simp only [cond_true] at h; rw [h]; rfl
    | false => rw [hv] at h; simp only [cond_false] at h; simp only [cond_false, subL_id h]
theorem subL_id {x : Int} {b : Ty} : ∀ {l : List Ty}, occL x l = false → subL x b l = l
  | [], _ => rfl
  | t :: l, h => by
    simp only [occL, Bool.or_eq_false_iff] at h
    simp only [subL, sub_id h.1, subL_id h.2]
end
mutual
theorem occ_sub {x : Int} {b : Ty} (n : Int) : ∀ {u : Ty}, occF n (subF x b u) = true → occF n u = true ∨ occF n b = true
  | .mk o v ks, h => by
    simp only [subF] at h
    cases hv : natsBeq o varS with
    | true =>
      rw [hv] at h
      simp only [cond_true] at h
      cases hb : intBeq v x with
      | true => rw [hb] at h; exact .inr h
      | false => rw [hb] at h; exact .inl h
    | false =>
      rw [hv] at h
      simp only [cond_false, occF, hv] at h ⊢
      exact occL_sub n h
theorem occL_sub {x : Int} {b : Ty} (n : Int) : ∀ {l : List Ty}, occL n (subL x b l) = true → occL n l = true ∨ occF n b = true
  | [], h => by simp [subL, occL] at h
  | t :: l, h => by
    simp only [subL, occL, Bool.or_eq_true] at h ⊢
    rcases h with h | h
    · rcases occ_sub n h with k | k
      · exact .inl (.inl k)
      · exact .inr k
    · rcases occL_sub n h with k | k
      · exact .inl (.inr k)
      · exact .inr k
end
theorem look_addN {sd : Sd} {x n : Int} {t : Ty} : look (sd ++ [(x, t)]) n = none ↔ look sd n = none ∧ n ≠ x := by
  rw [look_add]
  cases hl : look sd n with
  | some y => simp
  | none =>
    cases hb : intBeq n x with
    | true => simp [intBeq_iff.1 hb]
    | false =>
      simp only [true_and, cond_false]
      simp
      rintro rfl
      rw [intBeq_iff.2 rfl] at hb
      cases hb
section
variable {sd : Sd} {x : Int} {hb b : Ty} (hx : look sd x = none)
include hx
mutual
theorem ro_ext0 : ∀ {f : Nat} {t u : Ty}, roF f sd t = some u → occF x u = false → Ro (sd ++ [(x, hb)]) t u
  | 0, _, _, h, _ => by simp [roF] at h
  | f + 1, .mk o v ks, u, h, ho => by
    simp only [roF] at h
    cases hv : natsBeq o varS with
    | true =>
      rw [hv] at h
      simp only [cond_true] at h
      cases hl : look sd v with
      | none =>
        rw [hl] at h
        simp only [Option.some.injEq] at h
        rw [← h] at ho ⊢
        simp only [occF, hv, cond_true] at ho
        refine Ro.unb hv (look_addN.2 ⟨hl, ?_⟩)
        rintro rfl
        rw [intBeq_iff.2 rfl] at ho
        cases ho
      | some w =>
        rw [hl] at h
        exact Ro.bnd hv (by rw [look_add, hl]) (ro_ext0 h ho)
    | false =>
      rw [hv] at h
      simp only [cond_false] at h
      cases ha : all0 (roF f sd) ks with
      | none => rw [ha] at h; simp at h
      | some us =>
        rw [ha] at h
        simp only [Option.some.injEq] at h
        rw [← h] at ho ⊢
        exact Ro.node hv (roL_ext0 ha (by simpa [occF, hv] using ho))
theorem roL_ext0 : ∀ {f : Nat} {l us : List Ty}, all0 (roF f sd) l = some us → occL x us = false → RoL (sd ++ [(x, hb)]) l us
  | f, [], us, h, _ => by simp only [all0, Option.some.injEq] at h; rw [← h]; exact RoL.nil _
  | f, t :: l, us, h, ho => by
    simp only [all0] at h
    cases h1 : roF f sd t with
    | none => rw [h1] at h; simp at h
    | some u =>
      rw [h1] at h
      cases h2 : all0 (roF f sd) l with
      | none => rw [h2] at h; simp at h
      | some us' =>
        rw [h2] at h
        simp only [Option.some.injEq] at h
        rw [← h] at ho ⊢
        simp only [occL, Bool.or_eq_false_iff] at ho
        exact RoL.cons (ro_ext0 h1 ho.1) (roL_ext0 h2 ho.2)
end
mutual
theorem ro_ext (hbb : Ro (sd ++ [(x, hb)]) hb b) : ∀ {f : Nat} {t u : Ty}, roF f sd t = some u → Ro (sd ++ [(x, hb)]) t (subF x b u)
  | 0, _, _, h => by simp [roF] at h
  | f + 1, .mk o v ks, u, h => by
    simp only [roF] at h
    cases hv : natsBeq o varS with
    | true =>
      rw [hv] at h
      simp only [cond_true] at h
      cases hl : look sd v with
      | none =>
        rw [hl] at h
        simp only [Option.some.injEq] at h
        rw [← h]
        cases hvx : intBeq v x with
        | true =>
          obtain rfl := intBeq_iff.1 hvx
          simp only [subF, hv, cond_true, hvx]
          exact Ro.bnd hv (by rw [look_add, hl]; simp [hvx]) hbb
        | false =>
          simp only [subF, hv, cond_true, hvx, cond_false]
          refine Ro.unb hv (look_addN.2 ⟨hl, ?_⟩)
          rintro rfl
          rw [intBeq_iff.2 rfl] at hvx
          cases hvx
      | some w =>
        rw [hl] at h
        exact Ro.bnd hv (by rw [look_add, hl]) (ro_ext hbb h)
    | false =>
      rw [hv] at h
      simp only [cond_false] at h
      cases ha : all0 (roF f sd) ks with
      | none => rw [ha] at h; simp at h
      | some us =>
        rw [ha] at h
        simp only [Option.some.injEq] at h
        rw [← h]
        simp only [subF, hv, cond_false]
        exact Ro.node hv (roL_ext hbb ha)
theorem roL_ext (hbb : Ro (sd ++ [(x, hb)]) hb b) : ∀ {f : Nat} {l us : List Ty}, all0 (roF f sd) l = some us → RoL (sd ++ [(x, hb)]) l (subL x b us)
  | f, [], us, h => by simp only [all0, Option.some.injEq] at h; rw [← h]; exact RoL.nil _
  | f, t :: l, us, h => by
    simp only [all0] at h
    cases h1 : roF f sd t with
    | none => rw [h1] at h; simp at h
    | some u =>
      rw [h1] at h
      cases h2 : all0 (roF f sd) l with
      | none => rw [h2] at h; simp at h
      | some us' =>
        rw [h2] at h
        simp only [Option.some.injEq] at h
        rw [← h]
        exact RoL.cons (ro_ext hbb h1) (roL_ext hbb h2)
end
end
/-! ### How many are not said -/
def cnt (L : List Int) (sd : Sd) : Nat := (L.filter fun n => (look sd n).isNone).length
theorem cnt_le {L : List Int} {sd : Sd} {x : Int} {t : Ty} : cnt L (sd ++ [(x, t)]) ≤ cnt L sd := by
  induction L with
  | nil => exact Nat.le_refl _
  | cons n l ih =>
    unfold cnt at ih ⊢
    simp only [List.filter_cons]
    cases h1 : (look (sd ++ [(x, t)]) n).isNone with
    | true =>
      have : look sd n = none := (look_addN.1 (by simpa using h1)).1
      simp [this]
      exact ih
    | false =>
      cases h2 : (look sd n).isNone with
      | true => simp; omega
      | false => simpa using ih
theorem cnt_lt {L : List Int} {sd : Sd} {x : Int} {t : Ty} (hx : look sd x = none) (hm : x ∈ L) : cnt L (sd ++ [(x, t)]) < cnt L sd := by
  induction L with
  | nil => simp at hm
  | cons n l ih =>
    have hle := cnt_le (L := l) (sd := sd) (x := x) (t := t)
    unfold cnt at ih hle ⊢
    simp only [List.filter_cons]
    by_cases hn : n = x
    · subst hn
      have h1 : (look (sd ++ [(n, t)]) n).isNone = false := by
        rw [look_add, hx]; simp [intBeq_iff.2 (rfl : n = n)]
      rw [h1, hx]
      simp
      omega
    · have hm' : x ∈ l := by
        rcases List.mem_cons.1 hm with e | e
        · exact absurd e.symm hn
        · exact e
      have := ih hm'
      cases h1 : (look (sd ++ [(x, t)]) n).isNone with
      | true =>
        have : look sd n = none := (look_addN.1 (by simpa using h1)).1
        simp [this]
        omega
      | false =>
        cases h2 : (look sd n).isNone with
        | true => simp; omega
        | false => simpa using this
end Go.Proofs.Ytiifjjcoepgobaa.Env
/- Both make two types one alike. Plain. -/
set_option autoImplicit false
set_option maxRecDepth 100000
set_option linter.unusedSimpArgs false
set_option linter.unusedVariables false
set_option linter.unusedSectionVars false
namespace Go.Proofs.Ytiifjjcoepgobaa.Env
open Go.Ev

def rsayF (S : Sd) (n : Int) : Ty → Bool × Sd
  | .mk o v ks => bif hasI (varsF (.mk o v ks) []) n then (natsBeq o varS, S) else (true, S ++ [(n, .mk o v ks)])
def ruF : Nat → Sd → Ty → Ty → Option (Bool × Sd)
  | 0, _, _, _ => none
  | f + 1, S, a, b => match roF f S a, roF f S b with
    | some (.mk oa na ka), some (.mk ob nb kb) =>
      bif natsBeq oa varS then some (rsayF S na (.mk ob nb kb))
      else bif natsBeq ob varS then some (rsayF S nb (.mk oa na ka))
      else bif natsBeq oa ob then (bif intBeq ↑ka.length ↑kb.length then eqF (ruF f) S ka kb else some (false, S)) else some (false, S)
    | _, _ => none
theorem ruF_mono : ∀ {f g : Nat} {sd : Sd} {a b : Ty} {r : Bool × Sd}, f ≤ g → ruF f sd a b = some r → ruF g sd a b = some r
  | 0, _, _, _, _, _, _, h => by simp [ruF] at h
  | f + 1, 0, _, _, _, _, hg, _ => by omega
  | f + 1, g + 1, sd, a, b, r, hg, h => by
    simp only [ruF] at h ⊢
    cases ha : roF f sd a with
    | none => rw [ha] at h; simp at h
    | some a' =>
      cases hb : roF f sd b with
      | none => rw [ha, hb] at h; obtain ⟨oa, na, ka⟩ := a'; simp at h
      | some b' =>
        rw [ha, hb] at h
        rw [roF_mono (by omega) ha, roF_mono (by omega) hb]
        obtain ⟨oa, na, ka⟩ := a'
        obtain ⟨ob, nb, kb⟩ := b'
        simp only at h ⊢
        cases c2 : natsBeq oa varS with
        | true => rw [c2] at h; exact h
        | false =>
          rw [c2] at h
          simp only [cond_false] at h ⊢
          cases c3 : natsBeq ob varS with
          | true => rw [c3] at h; exact h
          | false =>
            rw [c3] at h
            simp only [cond_false] at h ⊢
            cases c4 : natsBeq oa ob with
            | false => rw [c4] at h; exact h
            | true =>
              rw [c4] at h
              simp only [cond_true] at h ⊢
              cases c5 : intBeq ↑ka.length ↑kb.length with
              | false => rw [c5] at h; exact h
              | true => rw [c5] at h; exact eqF_mono (fun s a b r e => ruF_mono (by omega) e) h
structure St (sd S : Sd) : Prop where
  o1 : okS sd
  o2 : okS S
  k : ∀ n, look sd n = none ↔ look S n = none
structure Ext (L : List Int) (sd S sd' S' : Sd) (σ : Ty → Ty) : Prop where
  p : ∀ t u, Ro sd t u → Ro sd' t (σ u)
  q : ∀ t u, Ro S t u → Ro S' t (σ u)
  o : ∀ t n, occF n (σ t) = true → occF n t = true ∨ n ∈ L
  st : St sd' S'
  c : (sd' = sd ∧ S' = S ∧ ∀ t, σ t = t) ∨ cnt L sd' < cnt L sd
  h : ∀ o n us, natsBeq o varS = false → σ (.mk o n us) = .mk o n (us.map σ)
theorem Ext.refl {L : List Int} {sd S : Sd} (hs : St sd S) : Ext L sd S sd S fun t => t :=
  ⟨fun _ _ h => h, fun _ _ h => h, fun _ _ h => .inl h, hs, .inl ⟨rfl, rfl, fun _ => rfl⟩, fun o n us _ => by simp⟩
theorem Ext.trans {L : List Int} {sd S sd' S' sd'' S'' : Sd} {σ τ : Ty → Ty} (a : Ext L sd S sd' S' σ) (b : Ext L sd' S' sd'' S'' τ) : Ext L sd S sd'' S'' fun t => τ (σ t) where
  p := fun t u h => b.p t _ (a.p t u h)
  q := fun t u h => b.q t _ (a.q t u h)
  o := fun t n h => by
    rcases b.o _ n h with h | h
    · exact a.o _ n h
    · exact .inr h
  st := b.st
  c := by
    rcases a.c with ⟨rfl, rfl, h1⟩ | h1 <;> rcases b.c with ⟨rfl, rfl, h2⟩ | h2
    · exact .inl ⟨rfl, rfl, fun t => by rw [h2, h1]⟩
    · exact .inr h2
    · exact .inr h1
    · exact .inr (by omega)
  h := fun o n us hv => by rw [a.h o n us hv, b.h o n _ hv, List.map_map]; rfl
theorem Ext.bind {L : List Int} {sd S : Sd} {x : Int} {hb w : Ty} (hs : St sd S) (hx : look sd x = none) (hm : x ∈ L) (hr : Ro sd hb w) (ho : occF x w = false) (h1 : okT hb) (h2 : okT w) (hL : ∀ n, occF n w = true → n ∈ L) :
    Ext L sd S (sd ++ [(x, hb)]) (S ++ [(x, w)]) (subF x w) := by
  have hxS := (hs.k x).1 hx
  obtain ⟨f, hf⟩ := hr
  have e1 : Ro (sd ++ [(x, hb)]) hb w := ro_ext0 hx hf ho
  have e2 : Ro (S ++ [(x, w)]) w w := ro_self fun n hn => by
    refine look_addN.2 ⟨(hs.k n).1 (ro_unb n hf hn), ?_⟩
    rintro rfl
    rw [ho] at hn
    cases hn
  refine ⟨fun t u ⟨g, hg⟩ => ro_ext hx e1 hg, fun t u ⟨g, hg⟩ => ro_ext hxS e2 hg, fun t n h => ?_, ⟨?_, ?_, fun n => ?_⟩, .inr (cnt_lt hx hm), fun o n us hv => ?_⟩
  · rcases occ_sub n h with k | k
    · exact .inl k
    · exact .inr (hL n k)
  · intro p hp
    rcases List.mem_append.1 hp with hp | hp
    · exact hs.o1 p hp
    · rw [List.mem_singleton.1 hp]; exact h1
  · intro p hp
    rcases List.mem_append.1 hp with hp | hp
    · exact hs.o2 p hp
    · rw [List.mem_singleton.1 hp]; exact h2
  · rw [look_addN, look_addN, hs.k n]
  · simp only [subF, hv, cond_false, subL_map]
theorem rsay_eq {S : Sd} {n : Int} {o : List Nat} {v : Int} {ks : List Ty} (he : eachF (.mk o v ks) = true) : rsayF S n (.mk o v ks) = bif occF n (.mk o v ks) then (natsBeq o varS, S) else (true, S ++ [(n, .mk o v ks)]) := by
  simp only [rsayF]
  rw [vars_occ n [] he]
  simp [hasI]
theorem say_both {L : List Int} {sd S : Sd} {x : Int} {hb : Ty} {o : List Nat} {v : Int} {ks : List Ty} (hs : St sd S) (hx : look sd x = none) (hm : x ∈ L) (hr : Ro sd hb (.mk o v ks)) (h1 : okT hb) (h2 : okT (.mk o v ks)) (hL : ∀ n, occF n (.mk o v ks) = true → n ∈ L)
    (hn : occF x (.mk o v ks) = true → natsBeq o varS = false) :
    ∃ r sd' S' d, saysF d sd x hb = some (r, sd') ∧ rsayF S x (.mk o v ks) = (r, S') ∧ (r = true → Ext L sd S sd' S' (subF x (.mk o v ks)) ∧ occF x (.mk o v ks) = false) := by
  obtain ⟨d, hd⟩ := says_ro hx hr
  rw [rsay_eq h2.1]
  cases ho : occF x (.mk o v ks) with
  | true =>
    rw [ho] at hd
    exact ⟨false, sd, S, d, hd, by rw [hn ho]; rfl, fun e => by cases e⟩
  | false =>
    rw [ho] at hd
    exact ⟨true, _, _, d, hd, rfl, fun _ => ⟨Ext.bind hs hx hm hr ho h1 h2 hL, rfl⟩⟩
structure Pre (L : List Int) (sd S : Sd) (a b a2 b2 u w : Ty) : Prop where
  st : St sd S
  pa : okT a
  pb : okT b
  pa2 : okT a2
  pb2 : okT b2
  ra : Ro sd a u
  rb : Ro sd b w
  ra2 : Ro S a2 u
  rb2 : Ro S b2 w
  l : ∀ n, occF n u = true ∨ occF n w = true → n ∈ L
def UC (L : List Int) (sd S : Sd) (a b a2 b2 u w : Ty) : Prop := ∃ r sd' S' f g, uniF f sd a b = some (r, sd') ∧ ruF g S a2 b2 = some (r, S') ∧ (r = true → ∃ σ, Ext L sd S sd' S' σ ∧ σ u = σ w)
def Less (L : List Int) (N M : Nat) (sd : Sd) (m : Nat) : Prop := cnt L sd < N ∨ (cnt L sd ≤ N ∧ m < M)
theorem eq_both {L : List Int} {N M : Nat} (IH : ∀ sd S a b a2 b2 u w, Pre L sd S a b a2 b2 u w → Less L N M sd (size u) → UC L sd S a b a2 b2 u w) :
    ∀ (l m l2 m2 us ws : List Ty) (sd S : Sd), St sd S → okL l → okL m → okL l2 → okL m2 → RoL sd l us → RoL sd m ws → RoL S l2 us → RoL S m2 ws → us.length = ws.length → (∀ n, occL n us = true ∨ occL n ws = true → n ∈ L) → Less L N M sd (sizes us) →
    ∃ r sd' S' f g, eqF (uniF f) sd l m = some (r, sd') ∧ eqF (ruF g) S l2 m2 = some (r, S') ∧ (r = true → ∃ σ, Ext L sd S sd' S' σ ∧ us.map σ = ws.map σ)
  | [], m, l2, m2, us, ws, sd, S, hs, _, _, _, _, h1, h2, h3, h4, hlen, _, _ => by
    obtain rfl := h1.inv0
    obtain rfl : ws = [] := List.length_eq_zero_iff.1 (by simpa using hlen.symm)
    obtain rfl : l2 = [] := List.length_eq_zero_iff.1 (by have := h3.length; simpa using this.symm)
    exact ⟨true, sd, S, 0, 0, by simp [eqF], by simp [eqF], fun _ => ⟨_, Ext.refl hs, rfl⟩⟩
  | t :: l, m, l2, m2, us, ws, sd, S, hs, o1, o2, o3, o4, h1, h2, h3, h4, hlen, hoc, hle => by
    obtain ⟨u, us', rfl, k1, k1'⟩ := h1.inv
    cases ws with
    | nil => simp at hlen
    | cons w ws' =>
      cases m with
      | nil => have := h2.inv0; cases this
      | cons tm m' =>
        cases l2 with
        | nil => have := h3.inv0; cases this
        | cons t2 l2' =>
          cases m2 with
          | nil => have := h4.inv0; cases this
          | cons tm2 m2' =>
            obtain ⟨_, _, e2, k2, k2'⟩ := h2.inv
            cases e2
            obtain ⟨_, _, e3, k3, k3'⟩ := h3.inv
            cases e3
            obtain ⟨_, _, e4, k4, k4'⟩ := h4.inv
            cases e4
            obtain ⟨r, sd', S', f, g, q1, q2, q3⟩ := IH sd S t tm t2 tm2 u w ⟨hs, o1 t (List.mem_cons_self ..), o2 tm (List.mem_cons_self ..), o3 t2 (List.mem_cons_self ..), o4 tm2 (List.mem_cons_self ..), k1, k2, k3, k4, fun n hn => hoc n (by
              rcases hn with hn | hn
              · exact .inl (by simp [occL, hn])
              · exact .inr (by simp [occL, hn]))⟩ (by
              unfold Less at hle ⊢
              simp only [sizes] at hle
              rcases hle with c | ⟨c, d⟩
              · exact .inl c
              · exact .inr ⟨c, by omega⟩)
            cases r with
            | false => exact ⟨false, sd', S', f, g, by simp [eqF, q1], by simp [eqF, q2], fun e => by cases e⟩
            | true =>
              obtain ⟨σ, X, hσ⟩ := q3 rfl
              have hmap : ∀ {sd sd' : Sd} {l us : List Ty}, (∀ t u, Ro sd t u → Ro sd' t (σ u)) → RoL sd l us → RoL sd' l (us.map σ) := by
                intro sd sd' l
                induction l with
                | nil => intro us hp h; rw [h.inv0]; exact RoL.nil _
                | cons t l ih =>
                  intro us hp h
                  obtain ⟨u, us', rfl, g1, g2⟩ := h.inv
                  exact RoL.cons (hp _ _ g1) (ih hp g2)
              have hocm : ∀ n (l : List Ty), occL n (l.map σ) = true → occL n l = true ∨ n ∈ L := by
                intro n l
                induction l with
                | nil => intro h; simp [occL] at h
                | cons t l ih =>
                  intro h
                  simp only [List.map_cons, occL, Bool.or_eq_true] at h ⊢
                  rcases h with h | h
                  · rcases X.o t n h with k | k
                    · exact .inl (.inl k)
                    · exact .inr k
                  · rcases ih h with k | k
                    · exact .inl (.inr k)
                    · exact .inr k
              obtain ⟨r, sd2, S2, f2, g2, p1, p2, p3⟩ := eq_both IH l m' l2' m2' (us'.map σ) (ws'.map σ) sd' S' X.st (fun t ht => o1 t (List.mem_cons_of_mem _ ht)) (fun t ht => o2 t (List.mem_cons_of_mem _ ht)) (fun t ht => o3 t (List.mem_cons_of_mem _ ht)) (fun t ht => o4 t (List.mem_cons_of_mem _ ht))
                (hmap X.p k1') (hmap X.p k2') (hmap X.q k3') (hmap X.q k4') (by simpa using hlen) (fun n hn => by
                  rcases hn with hn | hn
                  · rcases hocm n _ hn with k | k
                    · exact hoc n (.inl (by simp [occL, k]))
                    · exact k
                  · rcases hocm n _ hn with k | k
                    · exact hoc n (.inr (by simp [occL, k]))
                    · exact k) (by
                  unfold Less at hle ⊢
                  simp only [sizes] at hle
                  rcases X.c with ⟨rfl, rfl, hid⟩ | hlt
                  · have : us'.map σ = us' := by
                      rw [show σ = fun t => t from funext hid]; simp
                    rw [this]
                    rcases hle with c | ⟨c, d⟩
                    · exact .inl c
                    · exact .inr ⟨c, by omega⟩
                  · refine .inl ?_
                    rcases hle with c | ⟨c, d⟩ <;> omega)
              refine ⟨r, sd2, S2, max f f2, max g g2, ?_, ?_, fun e => ?_⟩
              · simp only [eqF, uniF_mono (Nat.le_max_left f f2) q1]
                exact eqF_mono (fun s a b r e => uniF_mono (Nat.le_max_right f f2) e) p1
              · simp only [eqF, ruF_mono (Nat.le_max_left g g2) q2]
                exact eqF_mono (fun s a b r e => ruF_mono (Nat.le_max_right g g2) e) p2
              · obtain ⟨τ, Y, hτ⟩ := p3 e
                refine ⟨_, X.trans Y, ?_⟩
                simp only [List.map_cons, hσ]
                rw [List.map_map, List.map_map] at hτ
                exact congrArg _ hτ
theorem uni_step {L : List Int} {N M : Nat} (IH : ∀ sd S a b a2 b2 u w, Pre L sd S a b a2 b2 u w → Less L N M sd (size u) → UC L sd S a b a2 b2 u w) {sd S : Sd} {a b a2 b2 u w : Ty}
    (P : Pre L sd S a b a2 b2 u w) (hN : cnt L sd ≤ N) (hM : size u ≤ M) : UC L sd S a b a2 b2 u w := by
  obtain ⟨hs, oa, ob, oa2, ob2, ⟨fa, ha⟩, ⟨fb, hb⟩, ⟨ga, ha2⟩, ⟨gb, hb2⟩, hl⟩ := P
  have ou := ro_ok hs.o1 ha oa
  have ow := ro_ok hs.o1 hb ob
  have hu2 := fun n h => ro_unb n ha2 h
  have hw2 := fun n h => ro_unb n hb2 h
  obtain ⟨f1, o1, n1, k1, hh1, ok1, r1, c1⟩ := ro_head hs.o1 ha oa
  obtain ⟨f2, o2, n2, k2, hh2, ok2, r2, c2⟩ := ro_head hs.o1 hb ob
  -- the reference at its heads
  have eR : ∀ d, ruF (max (max ga gb) d + 1) S a2 b2 = match (some u : Option Ty), (some w : Option Ty) with
    | some (.mk oa na ka), some (.mk ob nb kb) =>
      bif natsBeq oa varS then some (rsayF S na (.mk ob nb kb))
      else bif natsBeq ob varS then some (rsayF S nb (.mk oa na ka))
      else bif natsBeq oa ob then (bif intBeq ↑ka.length ↑kb.length then eqF (ruF (max (max ga gb) d)) S ka kb else some (false, S)) else some (false, S)
    | _, _ => none := fun d => by
    rw [ruF, roF_mono (by omega) ha2, roF_mono (by omega) hb2]
  have eP : ∀ d, uniF (max (max f1 f2) d + 1) sd a b = bif natsBeq o1 varS && natsBeq o2 varS && intBeq n1 n2 then some (true, sd)
      else bif natsBeq o1 varS then saysF (max (max f1 f2) d) sd n1 (.mk o2 n2 k2)
      else bif natsBeq o2 varS then saysF (max (max f1 f2) d) sd n2 (.mk o1 n1 k1)
      else bif natsBeq o1 o2 then (bif intBeq ↑k1.length ↑k2.length then eqF (uniF (max (max f1 f2) d)) sd k1 k2 else some (false, sd)) else some (false, sd) := fun d => by
    rw [uniF, headF_mono (by omega) hh1, headF_mono (by omega) hh2]
  rcases c1 with ⟨v1, rfl, l1, rfl⟩ | ⟨v1, us, rfl, R1⟩
  · have hm : n1 ∈ L := hl n1 (.inl (by simp [occF, v1, intBeq_iff.2 (rfl : n1 = n1)]))
    rcases c2 with ⟨v2, rfl, l2, rfl⟩ | ⟨v2, ws, rfl, R2⟩
    · cases hn : intBeq n1 n2 with
      | true =>
        obtain rfl := intBeq_iff.1 hn
        obtain rfl := natsBeq_iff.1 v1
        obtain rfl := natsBeq_iff.1 v2
        refine ⟨true, sd, S, max (max f1 f2) 0 + 1, max (max ga gb) 0 + 1, ?_, ?_, fun _ => ⟨_, Ext.refl hs, rfl⟩⟩
        · rw [eP 0]
          simp only [v1, hn, Bool.and_self, cond_true]
        · rw [eR 0]
          simp only [v1, cond_true]
          rw [rsay_eq ow.1]
          simp [occF, v1, intBeq_iff.2 (rfl : n1 = n1)]
      | false =>
        have hno : occF n1 (.mk o2 n2 []) = false := by
          simp only [occF, v2, cond_true]
          cases hb : intBeq n2 n1 with
          | false => rfl
          | true => rw [intBeq_iff.1 hb, intBeq_iff.2 rfl] at hn; cases hn
        obtain ⟨r, sd', S', d, q1, q2, q3⟩ := say_both hs l1 hm r2 ok2 ow (fun n h => hl n (.inr h)) (fun h => by rw [hno] at h; cases h)
        refine ⟨r, sd', S', max (max f1 f2) d + 1, max (max ga gb) 0 + 1, ?_, ?_, fun e => ?_⟩
        · rw [eP d]
          simp only [v1, v2, hn, Bool.and_false, cond_false, cond_true]
          exact saysF_mono (by omega) q1
        · rw [eR 0]
          simp only [v1, cond_true]
          rw [q2]
        · obtain ⟨X, ho⟩ := q3 e
          refine ⟨_, X, ?_⟩
          rw [sub_id ho]
          simp [subF, v1, intBeq_iff.2 (rfl : n1 = n1)]
    · obtain ⟨r, sd', S', d, q1, q2, q3⟩ := say_both hs l1 hm r2 ok2 ow (fun n h => hl n (.inr h)) (fun h => v2)
      refine ⟨r, sd', S', max (max f1 f2) d + 1, max (max ga gb) 0 + 1, ?_, ?_, fun e => ?_⟩
      · rw [eP d]
        simp only [v1, v2, Bool.and_false, Bool.false_and, cond_false, cond_true]
        exact saysF_mono (by omega) q1
      · rw [eR 0]
        simp only [v1, cond_true]
        rw [q2]
      · obtain ⟨X, ho⟩ := q3 e
        refine ⟨_, X, ?_⟩
        rw [sub_id ho]
        simp [subF, v1, intBeq_iff.2 (rfl : n1 = n1)]
  · rcases c2 with ⟨v2, rfl, l2, rfl⟩ | ⟨v2, ws, rfl, R2⟩
    · have hm : n2 ∈ L := hl n2 (.inr (by simp [occF, v2, intBeq_iff.2 (rfl : n2 = n2)]))
      obtain ⟨r, sd', S', d, q1, q2, q3⟩ := say_both hs l2 hm r1 ok1 ou (fun n h => hl n (.inl h)) (fun h => v1)
      refine ⟨r, sd', S', max (max f1 f2) d + 1, max (max ga gb) 0 + 1, ?_, ?_, fun e => ?_⟩
      · rw [eP d]
        simp only [v1, v2, Bool.and_false, Bool.false_and, cond_false, cond_true]
        exact saysF_mono (by omega) q1
      · rw [eR 0]
        simp only [v1, v2, cond_true, cond_false]
        rw [q2]
      · obtain ⟨X, ho⟩ := q3 e
        refine ⟨_, X, ?_⟩
        rw [sub_id ho]
        simp [subF, v2, intBeq_iff.2 (rfl : n2 = n2)]
    · cases hn : natsBeq o1 o2 with
      | false =>
        refine ⟨false, sd, S, max (max f1 f2) 0 + 1, max (max ga gb) 0 + 1, ?_, ?_, fun e => by cases e⟩
        · rw [eP 0]; simp [v1, v2, hn]
        · rw [eR 0]; simp [v1, v2, hn]
      | true =>
        obtain rfl := natsBeq_iff.1 hn
        have hlen1 := R1.length
        have hlen2 := R2.length
        have hk : us.length = ws.length := by
          have e1 := ou.1
          have e2 := ow.1
          simp only [eachF, Bool.and_eq_true] at e1 e2
          have := intBeq_iff.1 e1.1
          rw [intBeq_iff.1 e2.1] at this
          omega
        have hn0 : n1 = n2 := by
          have e1 := ou.1
          have e2 := ow.1
          simp only [eachF, Bool.and_eq_true, v1, Bool.false_or] at e1 e2
          rw [intBeq_iff.1 e1.2.2.1, intBeq_iff.1 e2.2.2.1]
        subst hn0
        have hocu : ∀ n, occF n (.mk o1 n1 us) = occL n us := fun n => by simp [occF, v1]
        have hocw : ∀ n, occF n (.mk o1 n1 ws) = occL n ws := fun n => by simp [occF, v1]
        obtain ⟨r, sd', S', d, e, q1, q2, q3⟩ := eq_both IH k1 k2 us ws us ws sd S hs ok1.kids ok2.kids ou.kids ow.kids R1 R2
          (roL_self fun n h => hu2 n (by rw [hocu]; exact h)) (roL_self fun n h => hw2 n (by rw [hocw]; exact h)) hk
          (fun n h => hl n (by rw [hocu, hocw]; exact h)) (.inr ⟨hN, by simp only [size] at hM; omega⟩)
        refine ⟨r, sd', S', max (max f1 f2) d + 1, max (max ga gb) e + 1, ?_, ?_, fun he => ?_⟩
        · rw [eP d]
          have : intBeq ↑k1.length ↑k2.length = true := intBeq_iff.2 (by rw [← hlen1, ← hlen2, hk])
          simp only [v1, hn, this, Bool.and_false, Bool.false_and, cond_false, cond_true]
          exact eqF_mono (fun s a b r e => uniF_mono (by omega) e) q1
        · rw [eR e]
          have : intBeq ↑us.length ↑ws.length = true := intBeq_iff.2 (by rw [hk])
          simp only [v1, hn, this, cond_false, cond_true]
          exact eqF_mono (fun s a b r e => ruF_mono (by omega) e) q2
        · obtain ⟨σ, X, hσ⟩ := q3 he
          exact ⟨σ, X, by rw [X.h _ _ _ v1, X.h _ _ _ v1, hσ]⟩
theorem uni_both (L : List Int) : ∀ (N M : Nat) {sd S : Sd} {a b a2 b2 u w : Ty}, Pre L sd S a b a2 b2 u w → cnt L sd ≤ N → size u ≤ M → UC L sd S a b a2 b2 u w := by
  intro N
  induction N using Nat.strongRecOn with
  | ind N ihN =>
    intro M
    induction M using Nat.strongRecOn with
    | ind M ihM =>
      intro sd S a b a2 b2 u w P h1 h2
      refine uni_step (N := N) (M := M) (fun sd S a b a2 b2 u w P' hc => ?_) P h1 h2
      rcases hc with hc | ⟨hc, hs⟩
      · exact ihN _ hc (size u) P' (Nat.le_refl _) (Nat.le_refl _)
      · exact ihM _ hs P' hc (Nat.le_refl _)
end Go.Proofs.Ytiifjjcoepgobaa.Env
