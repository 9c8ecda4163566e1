/- What makes two types one makes them no less than they need: the plain law. -/
import Derived.Test.YtiifjjcoepgobaaYN
set_option autoImplicit false
set_option maxRecDepth 100000
set_option linter.unusedSimpArgs false
set_option linter.unusedVariables false
set_option linter.unusedSectionVars false
namespace Go.Proofs.Ytiifjjcoepgobaa.Env
open Go.Ev

mutual
/-- No var within. -/
def gndF : Ty → Bool
  | .mk o _ ks => !natsBeq o varS && gndL ks
def gndL : List Ty → Bool
  | [] => true
  | t :: l => gndF t && gndL l
end
theorem headF_nv {f : Nat} {sd : Sd} {o : List Nat} {n : Int} {ks : List Ty} (h : natsBeq o varS = false) : headF (f + 1) sd (.mk o n ks) = some (.mk o n ks) := by simp [headF, h]
mutual
theorem vars_none : ∀ {t : Ty} {out : List Int}, (varsF t out).length ≤ out.length → eachF t = true → gndF t = true ∨ ∃ n, hasI out n = true ∧ occF n t = true
  | .mk o v ks, out, h, he => by
    simp only [varsF] at h
    simp only [gndF, occF]
    cases hv : natsBeq o varS with
    | true =>
      rw [hv] at h
      cases ho : hasI out v with
      | true => exact .inr ⟨v, ho, by simp [intBeq_iff.2 (rfl : v = v)]⟩
      | false =>
        rw [ho] at h
        obtain rfl := each_var he hv
        simp [varsL] at h
        omega
    | false =>
      rw [hv] at h
      simp only [Bool.false_and, cond_false] at h
      rcases varsL_none h (each_kids he) with q | ⟨n, q1, q2⟩
      · exact .inl (by simp [q])
      · exact .inr ⟨n, q1, by simpa using q2⟩
theorem varsL_none : ∀ {l : List Ty} {out : List Int}, (varsL l out).length ≤ out.length → eachL l = true → gndL l = true ∨ ∃ n, hasI out n = true ∧ occL n l = true
  | [], out, _, _ => .inl rfl
  | t :: l, out, h, he => by
    simp only [varsL] at h
    simp only [eachL, Bool.and_eq_true] at he
    simp only [gndL, occL]
    have h1 := varsF_ge t out
    have h2 := varsL_ge l (varsF t out)
    rcases vars_none (t := t) (out := out) (by omega) he.1 with q | ⟨n, q1, q2⟩
    · rcases varsL_none (l := l) (out := varsF t out) (by omega) he.2 with r | ⟨n, r1, r2⟩
      · exact .inl (by simp [q, r])
      · rw [vars_occ n out he.1] at r1
        simp only [Bool.or_eq_true] at r1
        rcases r1 with r1 | r1
        · exact .inr ⟨n, r1, by simp [r2]⟩
        · exfalso
          exact gnd_occ q r1
    · exact .inr ⟨n, q1, by simp [q2]⟩
theorem varsF_ge : ∀ (t : Ty) (out : List Int), out.length ≤ (varsF t out).length
  | .mk o n ks, out => by
    simp only [varsF]
    have := varsL_ge ks (bif natsBeq o varS && !hasI out n then out ++ [n] else out)
    cases hb : (natsBeq o varS && !hasI out n) <;> rw [hb] at this <;> simp at this ⊢ <;> omega
theorem varsL_ge : ∀ (l : List Ty) (out : List Int), out.length ≤ (varsL l out).length
  | [], out => by simp [varsL]
  | t :: l, out => by
    simp only [varsL]
    have h1 := varsF_ge t out
    have h2 := varsL_ge l (varsF t out)
    omega
theorem gnd_occ : ∀ {t : Ty} {n : Int}, gndF t = true → occF n t = true → False
  | .mk o v ks, n, h1, h2 => by
    simp only [gndF, occF, Bool.and_eq_true, Bool.not_eq_true'] at h1 h2
    rw [h1.1] at h2
    exact gndL_occ h1.2 h2
theorem gndL_occ : ∀ {l : List Ty} {n : Int}, gndL l = true → occL n l = true → False
  | [], n, _, h => by simp [occL] at h
  | t :: l, n, h1, h2 => by
    simp only [gndL, occL, Bool.and_eq_true, Bool.or_eq_true] at h1 h2
    rcases h2 with h2 | h2
    · exact gnd_occ h1.1 h2
    · exact gndL_occ h1.2 h2
end
theorem of_gnd : ∀ (f : Nat) (t : Ty) (sd : Sd), gndF t = true → dep t < f → ofF f sd t = some t
  | 0, t, sd, _, h => by omega
  | 1, t, sd, _, h => by have := dep_pos t; omega
  | f + 2, .mk o v ks, sd, hg, h => by
    simp only [dep] at h
    simp only [gndF, Bool.and_eq_true, Bool.not_eq_true'] at hg
    have hs : ofF (f + 2) sd (.mk o v ks) = match headF (f + 1) sd (.mk o v ks) with | none => none | some (.mk o n ks) => match all0 (ofF (f + 1) sd) ks with | none => none | some us => some (.mk o n us) := rfl
    rw [hs, headF_nv hg.1]
    simp only
    have : ∀ (l : List Ty), gndL l = true → deps l < f + 1 → all0 (fun t => ofF (f + 1) sd t) l = some l := by
      intro l
      induction l with
      | nil => intro _ _; rfl
      | cons t l ih =>
        intro hgl hl
        simp only [deps] at hl
        simp only [gndL, Bool.and_eq_true] at hgl
        simp only [all0, of_gnd (f + 1) t sd hgl.1 (by omega)]
        rw [ih hgl.2 (by omega)]
    rw [show all0 (ofF (f + 1) sd) ks = some ks from this ks hg.2 (by omega)]
theorem uni_gnd : ∀ (f : Nat) (t : Ty) (sd : Sd), gndF t = true → dep t < f → uniF f sd t t = some (true, sd)
  | 0, t, sd, _, h => by omega
  | 1, t, sd, _, h => by have := dep_pos t; omega
  | f + 2, .mk o v ks, sd, hg, h => by
    simp only [dep] at h
    simp only [gndF, Bool.and_eq_true, Bool.not_eq_true'] at hg
    have hn : intBeq v v = true := intBeq_iff.2 rfl
    have hl : intBeq ↑ks.length ↑ks.length = true := intBeq_iff.2 rfl
    have ho : natsBeq o o = true := natsBeq_iff.2 rfl
    simp only [uniF, headF_nv hg.1, hg.1, Bool.false_and, cond_false, ho, hl, cond_true]
    have : ∀ (l : List Ty), gndL l = true → deps l < f + 1 → eqF (uniF (f + 1)) sd l l = some (true, sd) := by
      intro l
      induction l with
      | nil => intro _ _; rfl
      | cons t l ih =>
        intro hgl hl
        simp only [deps] at hl
        simp only [gndL, Bool.and_eq_true] at hgl
        simp only [eqF, uni_gnd (f + 1) t sd hgl.1 (by omega)]
        exact ih hgl.2 (by omega)
    exact this ks hg.2 (by omega)
theorem has_gnd (n : Int) : ∀ (f : Nat) (t : Ty) (sd : Sd) (seen : List Int), gndF t = true → dep t ≤ f → hasF f sd n seen t = some (false, seen)
  | 0, t, sd, seen, _, h => by have := dep_pos t; omega
  | f + 1, .mk o v ks, sd, seen, hg, h => by
    simp only [gndF, Bool.and_eq_true, Bool.not_eq_true'] at hg
    simp only [dep] at h
    simp only [hasF, hg.1, cond_false]
    have : ∀ (l : List Ty), gndL l = true → deps l ≤ f → anyF (hasF f sd n) seen l = some (false, seen) := by
      intro l
      induction l with
      | nil => intro _ _; rfl
      | cons t l ih =>
        intro hgl hl
        simp only [deps] at hl
        simp only [gndL, Bool.and_eq_true] at hgl
        simp only [anyF, has_gnd n f t sd seen hgl.1 (by omega)]
        exact ih hgl.2 (by omega)
    exact this ks hg.2 (by omega)
theorem lookP_some : ∀ {L : List Int} {U : List Ty} {n : Int}, hasI L n = true → L.length ≤ U.length → ∃ u ∈ U, lookP L U n = some u
  | [], U, n, h, _ => by simp [hasI] at h
  | k :: l, [], n, _, h => by simp at h
  | k :: l, u :: us, n, h, hl => by
    simp only [lookP]
    cases hb : intBeq k n with
    | true => exact ⟨u, List.mem_cons_self .., rfl⟩
    | false =>
      have h' : hasI l n = true := by simpa [hasI, hb] using h
      obtain ⟨v, h1, h2⟩ := lookP_some (U := us) h' (by simpa using hl)
      exact ⟨v, List.mem_cons_of_mem _ h1, h2⟩
theorem look_add (sd : Sd) (v : Int) (u : Ty) (n : Int) : look (sd ++ [(v, u)]) n = match look sd n with | some x => some x | none => bif intBeq n v then some u else none := by
  induction sd with
  | nil => simp [look]
  | cons p l ih =>
    obtain ⟨k, t⟩ := p
    simp only [List.cons_append, look]
    cases intBeq n k with
    | true => rfl
    | false => exact ih
theorem putL_len : ∀ (l : List Ty) (L : List Int) (U : List Ty), (putL l L U).length = l.length
  | [], _, _ => rfl
  | t :: l, L, U => by simp [putL, putL_len l L U]
section
variable {L : List Int} {U : List Ty} (hLU : L.length ≤ U.length) (hU : ∀ u ∈ U, gndF u = true)
def InvS (L : List Int) (U : List Ty) (sd : Sd) : Prop := ∀ n u, look sd n = some u → lookP L U n = some u
include hLU hU
mutual
theorem uni_match : ∀ (t : Ty) (sd : Sd), eachF t = true → (∀ n, occF n t = true → hasI L n = true) → InvS L U sd →
    ∃ f sd', uniF f sd t (putF t L U) = some (true, sd') ∧ InvS L U sd' ∧ (∀ n u, look sd n = some u → look sd' n = some u) ∧ ∀ n, occF n t = true → (look sd' n).isSome = true
  | .mk o v ks, sd, he, ho, hI => by
    cases hv : natsBeq o varS with
    | true =>
      obtain rfl := each_var he hv
      have hov : occF v (.mk o v []) = true := by simp [occF, hv, intBeq_iff.2 (rfl : v = v)]
      have hon : ∀ n, occF n (.mk o v []) = true → n = v := fun n h => by
        simp only [occF, hv, cond_true] at h
        exact (intBeq_iff.1 h).symm
      obtain ⟨u, hu1, hu2⟩ := lookP_some (ho v hov) hLU
      have hg := hU u hu1
      have hp : putF (.mk o v []) L U = u := by simp [putF, hv, hu2]
      rw [hp]
      obtain ⟨uo, un, uk⟩ := u
      have hg' := hg
      simp only [gndF, Bool.and_eq_true, Bool.not_eq_true'] at hg'
      cases hl : look sd v with
      | some u0 =>
        have := hI v u0 hl
        rw [hu2] at this
        obtain rfl := Option.some.inj this
        refine ⟨dep (.mk uo un uk) + 3, sd, ?_, hI, fun n u h => h, fun n h => by rw [hon n h, hl]; rfl⟩
        have h1 : headF (dep (.mk uo un uk) + 2) sd (.mk o v []) = some (.mk uo un uk) := by
          show headF ((dep (.mk uo un uk) + 1) + 1) sd (.mk o v []) = _
          rw [headF, hv, cond_true, hl]
          exact headF_nv hg'.1
        have h2 : headF (dep (.mk uo un uk) + 2) sd (.mk uo un uk) = some (.mk uo un uk) := headF_nv hg'.1
        have e : uniF (dep (.mk uo un uk) + 3) sd (.mk o v []) (.mk uo un uk) = uniF (dep (.mk uo un uk) + 3) sd (.mk uo un uk) (.mk uo un uk) := by
          show uniF ((dep (.mk uo un uk) + 2) + 1) sd _ _ = uniF ((dep (.mk uo un uk) + 2) + 1) sd _ _
          rw [uniF, uniF, h1, h2]
        rw [e]
        exact uni_gnd _ _ sd hg (by omega)
      | none =>
        refine ⟨dep (.mk uo un uk) + 2, sd ++ [(v, .mk uo un uk)], ?_, ?_, ?_, ?_⟩
        · have h1 : headF (dep (.mk uo un uk) + 1) sd (.mk o v []) = some (.mk o v []) := by rw [headF, hv, cond_true, hl]
          have h2 : headF (dep (.mk uo un uk) + 1) sd (.mk uo un uk) = some (.mk uo un uk) := headF_nv hg'.1
          show uniF ((dep (.mk uo un uk) + 1) + 1) sd _ _ = _
          rw [uniF, h1, h2]
          simp [hv, hg'.1, saysF, has_gnd v _ _ sd [] hg (Nat.le_succ _)]
        · intro n u h
          rw [look_add] at h
          cases hn : look sd n with
          | some x => rw [hn] at h; rw [← h]; exact hI n x hn
          | none =>
            rw [hn] at h
            simp only at h
            cases hb : intBeq n v with
            | false => rw [hb] at h; simp at h
            | true => rw [hb] at h; rw [intBeq_iff.1 hb, hu2]; exact h
        · intro n u h
          rw [look_add, h]
        · intro n h
          rw [look_add, hon n h, hl]
          simp [intBeq_iff.2 (rfl : v = v)]
    | false =>
      have hp : putF (.mk o v ks) L U = .mk o v (putL ks L U) := by simp [putF, hv]
      have hoc : ∀ n, occF n (.mk o v ks) = occL n ks := fun n => by simp [occF, hv]
      obtain ⟨f, sd', h1, h2, h3, h4⟩ := uniL_match ks sd (each_kids he) (fun n h => ho n (by rw [hoc]; exact h)) hI
      refine ⟨f + 2, sd', ?_, h2, h3, fun n h => h4 n (by rw [← hoc]; exact h)⟩
      rw [hp]
      have hl : intBeq ↑ks.length ↑(putL ks L U).length = true := intBeq_iff.2 (by rw [putL_len])
      show uniF ((f + 1) + 1) sd _ _ = _
      rw [uniF, headF_nv hv, headF_nv hv]
      simp only [hv, Bool.false_and, cond_false, natsBeq_iff.2 (rfl : o = o), cond_true, hl]
      exact eqF_mono (fun s a b r e => uniF_mono (by omega) e) h1
theorem uniL_match : ∀ (l : List Ty) (sd : Sd), eachL l = true → (∀ n, occL n l = true → hasI L n = true) → InvS L U sd →
    ∃ f sd', eqF (uniF f) sd l (putL l L U) = some (true, sd') ∧ InvS L U sd' ∧ (∀ n u, look sd n = some u → look sd' n = some u) ∧ ∀ n, occL n l = true → (look sd' n).isSome = true
  | [], sd, _, _, hI => ⟨0, sd, rfl, hI, fun _ _ h => h, fun n h => by simp [occL] at h⟩
  | t :: l, sd, he, ho, hI => by
    simp only [eachL, Bool.and_eq_true] at he
    obtain ⟨f1, s1, h1, h2, h3, h4⟩ := uni_match t sd he.1 (fun n h => ho n (by simp [occL, h])) hI
    obtain ⟨f2, s2, g1, g2, g3, g4⟩ := uniL_match l s1 he.2 (fun n h => ho n (by simp [occL, h])) h2
    refine ⟨max f1 f2, s2, ?_, g2, fun n u h => g3 n u (h3 n u h), fun n h => ?_⟩
    · simp only [putL, eqF, uniF_mono (Nat.le_max_left f1 f2) h1]
      exact eqF_mono (fun s a b r e => uniF_mono (Nat.le_max_right f1 f2) e) g1
    · simp only [occL, Bool.or_eq_true] at h
      rcases h with h | h
      · obtain ⟨u, hu⟩ := Option.isSome_iff_exists.1 (h4 n h)
        rw [g3 n u hu]; rfl
      · exact g4 n h
end
mutual
theorem of_match {sd : Sd} (hI : InvS L U sd) : ∀ (t : Ty), eachF t = true → (∀ n, occF n t = true → (look sd n).isSome = true) → ∃ f, ofF f sd t = some (putF t L U)
  | .mk o v ks, he, ho => by
    cases hv : natsBeq o varS with
    | true =>
      obtain rfl := each_var he hv
      have hov : occF v (.mk o v []) = true := by simp [occF, hv, intBeq_iff.2 (rfl : v = v)]
      obtain ⟨u, hu⟩ := Option.isSome_iff_exists.1 (ho v hov)
      have hu2 := hI v u hu
      have hp : putF (.mk o v []) L U = u := by simp [putF, hv, hu2]
      have hg : gndF u = true := by
        obtain ⟨w, hw1, hw2⟩ : ∃ w ∈ U, lookP L U v = some w := by
          have : ∀ {L : List Int} {U : List Ty}, lookP L U v = some u → u ∈ U := by
            intro L
            induction L with
            | nil => intro U h; simp [lookP] at h
            | cons k l ih =>
              intro U h
              cases U with
              | nil => simp [lookP] at h
              | cons w us =>
                simp only [lookP] at h
                cases hb : intBeq k v with
                | true => rw [hb] at h; simp at h; rw [h]; exact List.mem_cons_self ..
                | false => rw [hb] at h; exact List.mem_cons_of_mem _ (ih h)
          exact ⟨u, this hu2, hu2⟩
        rw [hu2] at hw2
        rw [Option.some.inj hw2]
        exact hU w hw1
      rw [hp]
      obtain ⟨uo, un, uk⟩ := u
      have hg' := hg
      simp only [gndF, Bool.and_eq_true, Bool.not_eq_true'] at hg'
      refine ⟨dep (.mk uo un uk) + 3, ?_⟩
      have h1 : headF (dep (.mk uo un uk) + 2) sd (.mk o v []) = some (.mk uo un uk) := by
        show headF ((dep (.mk uo un uk) + 1) + 1) sd (.mk o v []) = _
        rw [headF, hv, cond_true, hu]
        exact headF_nv hg'.1
      have h2 : headF (dep (.mk uo un uk) + 2) sd (.mk uo un uk) = some (.mk uo un uk) := headF_nv hg'.1
      have e : ofF (dep (.mk uo un uk) + 3) sd (.mk o v []) = ofF (dep (.mk uo un uk) + 3) sd (.mk uo un uk) := by
        show ofF ((dep (.mk uo un uk) + 2) + 1) sd _ = ofF ((dep (.mk uo un uk) + 2) + 1) sd _
        rw [ofF, ofF, h1, h2]
      rw [e]
      exact of_gnd _ _ sd hg (by omega)
    | false =>
      have hp : putF (.mk o v ks) L U = .mk o v (putL ks L U) := by simp [putF, hv]
      have hoc : ∀ n, occF n (.mk o v ks) = occL n ks := fun n => by simp [occF, hv]
      obtain ⟨f, hf⟩ := ofL_match hI ks (each_kids he) (fun n h => ho n (by rw [hoc]; exact h))
      refine ⟨f + 2, ?_⟩
      rw [hp]
      show ofF ((f + 1) + 1) sd _ = _
      rw [ofF, headF_nv hv]
      simp only
      rw [all0_mono (fun a b e => ofF_mono (by omega) e) hf]
theorem ofL_match {sd : Sd} (hI : InvS L U sd) : ∀ (l : List Ty), eachL l = true → (∀ n, occL n l = true → (look sd n).isSome = true) → ∃ f, all0 (ofF f sd) l = some (putL l L U)
  | [], _, _ => ⟨0, rfl⟩
  | t :: l, he, ho => by
    simp only [eachL, Bool.and_eq_true] at he
    obtain ⟨f1, h1⟩ := of_match hI t he.1 (fun n h => ho n (by simp [occL, h]))
    obtain ⟨f2, h2⟩ := ofL_match hI l he.2 (fun n h => ho n (by simp [occL, h]))
    refine ⟨max f1 f2, ?_⟩
    simp only [all0, putL, ofF_mono (Nat.le_max_left f1 f2) h1]
    rw [all0_mono (fun a b e => ofF_mono (Nat.le_max_right f1 f2) e) h2]
end
end
mutual
theorem vars_nodup : ∀ (t : Ty) (out : List Int), out.Nodup → (varsF t out).Nodup
  | .mk o n ks, out, h => by
    simp only [varsF]
    refine varsL_nodup ks _ ?_
    cases hb : (natsBeq o varS && !hasI out n) with
    | false => exact h
    | true =>
      simp only [Bool.and_eq_true, Bool.not_eq_true'] at hb
      simp only [cond_true]
      refine List.nodup_append.2 ⟨h, by simp, fun a ha b hb2 => ?_⟩
      rw [List.mem_singleton.1 hb2]
      rintro rfl
      have : hasI out a = true := List.any_eq_true.2 ⟨a, ha, intBeq_iff.2 rfl⟩
      rw [hb.2] at this
      cases this
theorem varsL_nodup : ∀ (l : List Ty) (out : List Int), out.Nodup → (varsL l out).Nodup
  | [], out, h => h
  | t :: l, out, h => by
    simp only [varsL]
    exact varsL_nodup l _ (vars_nodup t out h)
end
theorem lookP_at : ∀ {L : List Int} {U : List Ty} {i : Nat} {n : Int} {u : Ty}, L.Nodup → L[i]? = some n → U[i]? = some u → lookP L U n = some u
  | [], U, i, n, u, _, h, _ => by simp at h
  | k :: l, [], i, n, u, _, _, h => by simp at h
  | k :: l, w :: us, 0, n, u, _, h1, h2 => by
    simp at h1 h2
    subst h1; subst h2
    simp [lookP, intBeq_iff.2 (rfl : k = k)]
  | k :: l, w :: us, i + 1, n, u, hd, h1, h2 => by
    simp at h1 h2
    have hk : intBeq k n = false := by
      cases hb : intBeq k n with
      | false => rfl
      | true =>
        rw [intBeq_iff.1 hb] at hd
        exact absurd (List.mem_of_getElem? h1) (List.nodup_cons.1 hd).1
    simp only [lookP, hk, cond_false]
    exact lookP_at (List.nodup_cons.1 hd).2 h1 h2
end Go.Proofs.Ytiifjjcoepgobaa.Env
