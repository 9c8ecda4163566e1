/- The machine without fuel: what a run comes to with enough of it; its equations. -/
import Derived.Test.YtncccgglillmoaaGreatDoorEvY
set_option autoImplicit false
set_option linter.unusedSectionVars false
set_option linter.unusedVariables false
set_option linter.unusedSimpArgs false
namespace Go.Ev
variable [MT]

section
variable {α : Type}
open Classical in
noncomputable def lim (F : Nat → Option α) : Option α := if h : ∃ k r, F k = some r then F h.choose else none
def Mono (F : Nat → Option α) : Prop := ∀ k k' r, k ≤ k' → F k = some r → F k' = some r
theorem lim_ex {F : Nat → Option α} {r : α} (h : lim F = some r) : ∃ k, F k = some r := by
  unfold lim at h
  split at h
  · exact ⟨_, h⟩
  · simp at h
theorem lim_some {F : Nat → Option α} (hm : Mono F) {k : Nat} {r : α} (h : F k = some r) : lim F = some r := by
  have he : ∃ k r, F k = some r := ⟨k, r, h⟩
  unfold lim
  rw [dif_pos he]
  obtain ⟨r', hr'⟩ := he.choose_spec
  have h1 := hm _ (max k he.choose) _ (Nat.le_max_left ..) h
  have h2 := hm _ (max k he.choose) _ (Nat.le_max_right ..) hr'
  rw [h1] at h2
  rw [hr', Option.some.inj h2]
theorem lim_iff {F : Nat → Option α} (hm : Mono F) {r : α} : lim F = some r ↔ ∃ k, F k = some r := ⟨lim_ex, fun ⟨_, h⟩ => lim_some hm h⟩
theorem opt_ext {x y : Option α} (h : ∀ r, x = some r ↔ y = some r) : x = y := by
  cases hx : x with
  | none =>
    cases hy : y with
    | none => rfl
    | some r => exact absurd ((h r).2 hy) (by simp [hx])
  | some r => exact ((h r).1 hx).symm
end

variable (E : Env)
noncomputable def evL : CallF := fun f args h => lim fun k => evFn E k f args h
noncomputable def cdL (f n : Nat) (c : Code) (tm : Tm) (h : H) : Option (Ex × Tm × H) := lim fun k => evCode (evFn E k) E f n k c tm h

theorem mono_fn (f : Nat) (args : List AV) (h : H) : Mono fun k => evFn E k f args h := fun k k' r hk he => evFn_mono k k' hk f args h r he
theorem mono_cd (f n : Nat) (c : Code) (tm : Tm) (h : H) : Mono fun k => evCode (evFn E k) E f n k c tm h := fun k k' r hk he => evCode_mono (evFn_mono k k' hk) k k' c hk he
theorem sub_evL (k : Nat) : Sub (evFn E k) (evL E) := fun f args h r he => lim_some (mono_fn E f args h) he

section
variable {ty : Nat → Option TyI} {n : Nat} {ops : Array Oper}
theorem evAct_lim {tm : Tm} {h : H} {o : Op} {r : AV × H} (he : evAct (evL E) ty tm h o = some r) : ∃ k, evAct (evFn E k) ty tm h o = some r := by
  unfold evAct at he ⊢
  split at he
  · split at he
    · exact lim_ex he
    · simp at he
  · exact ⟨0, he⟩
theorem evOne_lim {o : Oper} {tm : Tm} {h : H} {r : Tm × H} (he : evOne (evL E) ty n ops o tm h = some r) : ∃ k, evOne (evFn E k) ty n ops o tm h = some r := by
  unfold evOne at he ⊢
  split at he
  · simp at he
  · exact ⟨0, he⟩
  · rename_i hw
    cases ha : evAct (evL E) ty tm h o.op with
    | none => rw [ha] at he; simp at he
    | some p =>
      rw [ha] at he
      obtain ⟨k, hk⟩ := evAct_lim E ha
      refine ⟨k, ?_⟩
      rw [hk]
      exact he
theorem evSeq_lim : ∀ {l : List Oper} {tm : Tm} {h : H} {r : Tm × H}, evSeq (evL E) ty n ops l tm h = some r → ∃ k, evSeq (evFn E k) ty n ops l tm h = some r
  | [], tm, h, r, he => ⟨0, he⟩
  | o :: l, tm, h, r, he => by
    simp only [evSeq] at he ⊢
    cases ho : evOne (evL E) ty n ops o tm h with
    | none => rw [ho] at he; simp at he
    | some p =>
      rw [ho] at he
      obtain ⟨k1, h1⟩ := evOne_lim E ho
      obtain ⟨k2, h2⟩ := evSeq_lim he
      refine ⟨max k1 k2, ?_⟩
      rw [evOne_mono (evFn_mono _ _ (Nat.le_max_left k1 k2)) h1]
      exact evSeq_mono (evFn_mono _ _ (Nat.le_max_right k1 k2)) h2
theorem evPlan_lim : ∀ {l : List PE} {tm : Tm} {h : H} {r : Tm × H}, evPlan (evL E) ty n ops l tm h = some r → ∃ k, evPlan (evFn E k) ty n ops l tm h = some r
  | [], tm, h, r, he => ⟨0, he⟩
  | p :: l, tm, h, r, he => by
    simp only [evPlan] at he ⊢
    split at he
    · simp at he
    · rename_i o ho
      cases h1 : evOne (evL E) ty n ops o tm h with
      | none => rw [h1] at he; simp at he
      | some q =>
        rw [h1] at he
        simp only at he
        obtain ⟨k1, h1'⟩ := evOne_lim E h1
        cases hr : recheck ty ops q.1 q.2 p.chk with
        | false => rw [hr] at he; simp at he
        | true =>
          rw [hr] at he
          simp only [cond_true] at he
          obtain ⟨k2, h2⟩ := evPlan_lim he
          refine ⟨max k1 k2, ?_⟩
          rw [evOne_mono (evFn_mono _ _ (Nat.le_max_left k1 k2)) h1']
          simp only [hr, cond_true]
          exact evPlan_mono (evFn_mono _ _ (Nat.le_max_right k1 k2)) h2
theorem evAlt_lim : ∀ {al : Alt} {os : Array Oper} {tm : Tm} {h : H} {r : Tm × H}, evAlt (evL E) ty n os al tm h = some r → ∃ k, evAlt (evFn E k) ty n os al tm h = some r
  | .leaf pl, os, tm, h, r, he => evPlan_lim E he
  | .split a b x y, os, tm, h, r, he => by
    simp only [evAlt] at he ⊢
    cases h1 : evAlt (evL E) ty n (addEdge os b a) x tm h with
    | none => rw [h1] at he; simp at he
    | some p =>
      cases h2 : evAlt (evL E) ty n (addEdge os a b) y tm h with
      | none => rw [h1, h2] at he; simp at he
      | some q =>
        rw [h1, h2] at he
        obtain ⟨k1, h1'⟩ := evAlt_lim h1
        obtain ⟨k2, h2'⟩ := evAlt_lim h2
        refine ⟨max k1 k2, ?_⟩
        rw [evAlt_mono (evFn_mono _ _ (Nat.le_max_left k1 k2)) h1', evAlt_mono (evFn_mono _ _ (Nat.le_max_right k1 k2)) h2']
        exact he
end

section
variable (f n : Nat) (tm : Tm) (h : H)
theorem cdL_iff {c : Code} {r : Ex × Tm × H} : cdL E f n c tm h = some r ↔ ∃ k, evCode (evFn E k) E f n k c tm h = some r := lim_iff (mono_cd E f n c tm h)
theorem cdL_skip : cdL E f n .skip tm h = some (.normal, tm, h) := (cdL_iff E f n tm h).2 ⟨1, rfl⟩
theorem cdL_label (l : Nat) : cdL E f n (.label l) tm h = some (.normal, tm, h) := (cdL_iff E f n tm h).2 ⟨1, rfl⟩
theorem cdL_exit (id : Nat) : cdL E f n (.exit id) tm h = some (.exit id, tm, h) := (cdL_iff E f n tm h).2 ⟨1, rfl⟩
theorem cdL_ret : cdL E f n .ret tm h = some (.ret, tm, h) := (cdL_iff E f n tm h).2 ⟨1, rfl⟩
theorem cdL_region (id : Nat) (os : Array Oper) : cdL E f n (.region id os false) tm h = match evSeq (evL E) E.ty n os os.toList tm h with | none => none | some (tm', h') => some (.normal, tm', h') := by
  refine opt_ext fun r => ?_
  rw [cdL_iff]
  constructor
  · rintro ⟨k, hk⟩
    cases k with
    | zero => simp [evCode] at hk
    | succ k =>
      simp only [evCode] at hk
      cases hs : evSeq (evFn E (k + 1)) E.ty n os os.toList tm h with
      | none => rw [hs] at hk; simp at hk
      | some p =>
        rw [hs] at hk
        rw [evSeq_mono (sub_evL E _) hs]
        exact hk
  · intro he
    cases hs : evSeq (evL E) E.ty n os os.toList tm h with
    | none => rw [hs] at he; simp at he
    | some p =>
      rw [hs] at he
      obtain ⟨k, hk⟩ := evSeq_lim E hs
      refine ⟨k + 1, ?_⟩
      simp only [evCode]
      rw [evSeq_mono (evFn_mono k (k + 1) (Nat.le_succ k)) hk]
      exact he
theorem cdL_drawn (id : Nat) (os : Array Oper) : cdL E f n (.region id os true) tm h = match E.plan f id with | none => (match E.alt f id with | none => none | some al => match evAlt (evL E) E.ty n os al tm h with | none => none | some (tm', h') => some (.normal, tm', h')) | some pl => match evPlan (evL E) E.ty n os pl tm h with | none => none | some (tm', h') => some (.normal, tm', h') := by
  refine opt_ext fun r => ?_
  rw [cdL_iff]
  constructor
  · rintro ⟨k, hk⟩
    cases k with
    | zero => simp [evCode] at hk
    | succ k =>
      simp only [evCode] at hk
      cases hp : E.plan f id with
      | none =>
        rw [hp] at hk
        simp only at hk ⊢
        cases hal : E.alt f id with
        | none => rw [hal] at hk; simp at hk
        | some al =>
          rw [hal] at hk
          simp only at hk ⊢
          cases hs : evAlt (evFn E (k + 1)) E.ty n os al tm h with
          | none => rw [hs] at hk; simp at hk
          | some p =>
            rw [hs] at hk
            rw [evAlt_mono (sub_evL E _) hs]
            exact hk
      | some pl =>
        rw [hp] at hk
        simp only at hk ⊢
        cases hs : evPlan (evFn E (k + 1)) E.ty n os pl tm h with
        | none => rw [hs] at hk; simp at hk
        | some p =>
          rw [hs] at hk
          rw [evPlan_mono (sub_evL E _) hs]
          exact hk
  · intro he
    cases hp : E.plan f id with
    | none =>
      rw [hp] at he
      simp only at he
      cases hal : E.alt f id with
      | none => rw [hal] at he; simp at he
      | some al =>
        rw [hal] at he
        simp only at he
        cases hs : evAlt (evL E) E.ty n os al tm h with
        | none => rw [hs] at he; simp at he
        | some p =>
          rw [hs] at he
          obtain ⟨k, hk⟩ := evAlt_lim E hs
          refine ⟨k + 1, ?_⟩
          simp only [evCode]
          rw [hp]
          simp only
          rw [hal]
          simp only
          rw [evAlt_mono (evFn_mono k (k + 1) (Nat.le_succ k)) hk]
          exact he
    | some pl =>
      rw [hp] at he
      simp only at he
      cases hs : evPlan (evL E) E.ty n os pl tm h with
      | none => rw [hs] at he; simp at he
      | some p =>
        rw [hs] at he
        obtain ⟨k, hk⟩ := evPlan_lim E hs
        refine ⟨k + 1, ?_⟩
        simp only [evCode]
        rw [hp]
        simp only
        rw [evPlan_mono (evFn_mono k (k + 1) (Nat.le_succ k)) hk]
        exact he
theorem up {k k' : Nat} (hk : k ≤ k') {j : Nat} {c : Code} {tm : Tm} {h : H} {r : Ex × Tm × H} (he : evCode (evFn E k) E f n j c tm h = some r) (j' : Nat) (hj : j ≤ j') : evCode (evFn E k') E f n j' c tm h = some r := evCode_mono (evFn_mono k k' hk) j j' c hj he
theorem cdL_seq (a b : Code) : cdL E f n (.seq a b) tm h = match cdL E f n a tm h with | none => none | some (.normal, tm', h') => cdL E f n b tm' h' | some r => some r := by
  refine opt_ext fun r => ?_
  rw [cdL_iff]
  constructor
  · rintro ⟨k, hk⟩
    cases k with
    | zero => simp [evCode] at hk
    | succ k =>
      simp only [evCode] at hk
      cases ha : evCode (evFn E (k + 1)) E f n k a tm h with
      | none => rw [ha] at hk; simp at hk
      | some p =>
        rw [ha] at hk
        rw [(cdL_iff E f n tm h).2 ⟨k + 1, up E f n (Nat.le_refl _) ha _ (Nat.le_succ k)⟩]
        obtain ⟨ex, tm1, h1⟩ := p
        cases ex with
        | normal => exact (cdL_iff E f n _ _).2 ⟨k + 1, up E f n (Nat.le_refl _) hk _ (Nat.le_succ k)⟩
        | exit j => exact hk
        | ret => exact hk
  · intro he
    cases ha : cdL E f n a tm h with
    | none => rw [ha] at he; simp at he
    | some p =>
      rw [ha] at he
      obtain ⟨k1, h1⟩ := (cdL_iff E f n tm h).1 ha
      obtain ⟨ex, tm1, h1'⟩ := p
      cases ex with
      | normal =>
        obtain ⟨k2, h2⟩ := (cdL_iff E f n _ _).1 he
        refine ⟨max k1 k2 + 1, ?_⟩
        simp only [evCode]
        rw [up E f n (by omega) h1 (max k1 k2) (by omega)]
        exact up E f n (by omega) h2 _ (by omega)
      | exit j =>
        refine ⟨k1 + 1, ?_⟩
        simp only [evCode]
        rw [up E f n (by omega) h1 k1 (by omega)]
        exact he
      | ret =>
        refine ⟨k1 + 1, ?_⟩
        simp only [evCode]
        rw [up E f n (by omega) h1 k1 (by omega)]
        exact he
theorem cdL_cond (c : Operand) (a b : Code) : cdL E f n (.cond c a b) tm h = match val tm c with | some (.bool t) => bif t then cdL E f n a tm h else cdL E f n b tm h | _ => none := by
  refine opt_ext fun r => ?_
  rw [cdL_iff]
  constructor
  · rintro ⟨k, hk⟩
    cases k with
    | zero => simp [evCode] at hk
    | succ k =>
      simp only [evCode] at hk
      split at hk
      · rename_i t hv
        rw [hv]
        cases t with
        | true => exact (cdL_iff E f n _ _).2 ⟨k + 1, up E f n (Nat.le_refl _) hk _ (Nat.le_succ k)⟩
        | false => exact (cdL_iff E f n _ _).2 ⟨k + 1, up E f n (Nat.le_refl _) hk _ (Nat.le_succ k)⟩
      · simp at hk
  · intro he
    split at he
    · rename_i t hv
      have hq : ∀ k, evCode (evFn E (k + 1)) E f n (k + 1) (.cond c a b) tm h = bif t then evCode (evFn E (k + 1)) E f n k a tm h else evCode (evFn E (k + 1)) E f n k b tm h := fun k => by
        simp only [evCode]
        rw [hv]
      cases t with
      | true =>
        obtain ⟨k, hk⟩ := (cdL_iff E f n _ _).1 he
        refine ⟨k + 1, ?_⟩
        rw [hq]
        exact up E f n (by omega) hk _ (by omega)
      | false =>
        obtain ⟨k, hk⟩ := (cdL_iff E f n _ _).1 he
        refine ⟨k + 1, ?_⟩
        rw [hq]
        exact up E f n (by omega) hk _ (by omega)
    · simp at he
theorem cdL_block (id : Nat) (b : Code) : cdL E f n (.block id b) tm h = match cdL E f n b tm h with | none => none | some (.exit j, tm', h') => some (bif Nat.beq j id then .normal else .exit j, tm', h') | some r => some r := by
  refine opt_ext fun r => ?_
  rw [cdL_iff]
  constructor
  · rintro ⟨k, hk⟩
    cases k with
    | zero => simp [evCode] at hk
    | succ k =>
      simp only [evCode] at hk
      cases ha : evCode (evFn E (k + 1)) E f n k b tm h with
      | none => rw [ha] at hk; simp at hk
      | some p =>
        rw [ha] at hk
        rw [(cdL_iff E f n tm h).2 ⟨k + 1, up E f n (Nat.le_refl _) ha _ (Nat.le_succ k)⟩]
        exact hk
  · intro he
    cases ha : cdL E f n b tm h with
    | none => rw [ha] at he; simp at he
    | some p =>
      rw [ha] at he
      obtain ⟨k1, h1⟩ := (cdL_iff E f n tm h).1 ha
      refine ⟨k1 + 1, ?_⟩
      simp only [evCode]
      rw [up E f n (by omega) h1 k1 (by omega)]
      exact he
theorem cdL_loop (b : Code) : cdL E f n (.loop b) tm h = match cdL E f n b tm h with | none => none | some (.normal, tm', h') => cdL E f n (.loop b) tm' h' | some r => some r := by
  refine opt_ext fun r => ?_
  rw [cdL_iff]
  constructor
  · rintro ⟨k, hk⟩
    cases k with
    | zero => simp [evCode] at hk
    | succ k =>
      simp only [evCode] at hk
      cases ha : evCode (evFn E (k + 1)) E f n k b tm h with
      | none => rw [ha] at hk; simp at hk
      | some p =>
        rw [ha] at hk
        rw [(cdL_iff E f n tm h).2 ⟨k + 1, up E f n (Nat.le_refl _) ha _ (Nat.le_succ k)⟩]
        obtain ⟨ex, tm1, h1⟩ := p
        cases ex with
        | normal => exact (cdL_iff E f n _ _).2 ⟨k + 1, up E f n (Nat.le_refl _) hk _ (Nat.le_succ k)⟩
        | exit j => exact hk
        | ret => exact hk
  · intro he
    cases ha : cdL E f n b tm h with
    | none => rw [ha] at he; simp at he
    | some p =>
      rw [ha] at he
      obtain ⟨k1, h1⟩ := (cdL_iff E f n tm h).1 ha
      obtain ⟨ex, tm1, h1'⟩ := p
      cases ex with
      | normal =>
        obtain ⟨k2, h2⟩ := (cdL_iff E f n _ _).1 he
        refine ⟨max k1 k2 + 1, ?_⟩
        simp only [evCode]
        rw [up E f n (by omega) h1 (max k1 k2) (by omega)]
        exact up E f n (by omega) h2 _ (by omega)
      | exit j =>
        refine ⟨k1 + 1, ?_⟩
        simp only [evCode]
        rw [up E f n (by omega) h1 k1 (by omega)]
        exact he
      | ret =>
        refine ⟨k1 + 1, ?_⟩
        simp only [evCode]
        rw [up E f n (by omega) h1 k1 (by omega)]
        exact he
end

theorem evL_prim {f : Nat} {p : List AV → H → Option (AV × H)} (hp : E.prim f = some p) (args : List AV) (h : H) : evL E f args h = p args h := by
  refine opt_ext fun r => ?_
  constructor
  · intro he
    obtain ⟨k, hk⟩ := lim_ex he
    cases k with
    | zero => simp [evFn] at hk
    | succ k => simpa only [evFn, hp] using hk
  · intro he
    exact lim_some (mono_fn E f args h) (k := 1) (by simpa only [evFn, hp] using he)
theorem evL_fn {f : Nat} {fn : Func} {c : Code} (hp : E.prim f = none) (hf : E.fns f = some fn) (hb : fn.body = some c) (args : List AV) (h : H) (hl : Nat.ble args.length fn.ntmps = true) :
    evL E f args h = endL E.ty fn.results.toList (cdL E f fn.ntmps c (setArgs 0 args .e) h) := by
  have hq : ∀ k, evFn E (k + 1) f args h = endL E.ty fn.results.toList (evCode (evFn E k) E f fn.ntmps k c (setArgs 0 args .e) h) := fun k => by
    simp only [evFn, hp, hf, hb, hl, cond_true]
    rcases evCode (evFn E k) E f fn.ntmps k c (setArgs 0 args .e) h with _ | ⟨ex, tm, h'⟩
    · rfl
    · cases ex <;> rfl
  refine opt_ext fun r => ?_
  constructor
  · intro he
    obtain ⟨k, hk⟩ := lim_ex he
    cases k with
    | zero => simp [evFn] at hk
    | succ k =>
      rw [hq] at hk
      cases ha : evCode (evFn E k) E f fn.ntmps k c (setArgs 0 args .e) h with
      | none => rw [ha] at hk; simp [endL] at hk
      | some p =>
        rw [ha] at hk
        rw [(cdL_iff E f fn.ntmps _ h).2 ⟨k, ha⟩]
        exact hk
  · intro he
    cases ha : cdL E f fn.ntmps c (setArgs 0 args .e) h with
    | none => rw [ha] at he; simp [endL] at he
    | some p =>
      rw [ha] at he
      obtain ⟨k, hk⟩ := (cdL_iff E f fn.ntmps _ h).1 ha
      refine lim_some (mono_fn E f args h) (k := k + 1) ?_
      rw [hq, hk]
      exact he
theorem evL_of {k f : Nat} {args : List AV} {h : H} {r : AV × H} (he : evFn E k f args h = some r) : evL E f args h = some r := lim_some (mono_fn E f args h) he

/-- One round of a loop. -/
def lp (R : Tm → H → Option (Ex × Tm × H)) : Option (Ex × Tm × H) → Option (Ex × Tm × H)
  | none => none
  | some (.normal, tm, h) => R tm h
  | some r => some r
theorem loop_step {E : Env} {f n : Nat} {b : Code} {tm : Tm} {h : H} {x : Option (Ex × Tm × H)} (hx : cdL E f n (.loop b) tm h = x) :
    ∃ R, (∀ tm h, R tm h = cdL E f n (.loop b) tm h) ∧ lp R (cdL E f n b tm h) = x := by
  refine ⟨fun tm h => cdL E f n (.loop b) tm h, fun _ _ => rfl, ?_⟩
  rw [cdL_loop] at hx
  rw [← hx]
  rcases cdL E f n b tm h with _ | ⟨ex, tm', h'⟩
  · rfl
  · cases ex <;> rfl
def condAt (f : Func) (p : List Nat) : Operand :=
  match codeAt f p with
  | .cond c _ _ => c
  | _ => .tmp 0
theorem wr_succ [Inhabited KA0] {i : Nat} (h : i < 9223372036854775807) : wr .i64 ((i : Int) + 1) = (i : Int) + 1 := by
  rw [wr_eq]; exact wrap_i64_in (by omega) (by omega)
theorem ltI_t [Inhabited KA0] {a b : Nat} (h : a < b) : ltI (a : Int) (b : Int) = true := by rw [ltI_eq]; simp [h]
theorem ltI_f [Inhabited KA0] {a b : Nat} (h : b ≤ a) : ltI (a : Int) (b : Int) = false := by rw [ltI_eq]; simp; omega
theorem dcons {α : Type} {s : List α} {n : Nat} {c : α} {l : List α} (h : c :: l = s.drop n) : n < s.length ∧ s[n]? = some c ∧ l = s.drop (n + 1) := by
  refine ⟨?_, ?_, ?_⟩
  · have := congrArg List.length h; simp at this; omega
  · have : (s.drop n)[0]? = some c := by rw [← h]; rfl
    simpa using this
  · have := congrArg List.tail h; simpa [List.tail_drop] using this
theorem dnil {α : Type} {s : List α} {n : Nat} (h : [] = s.drop n) (hn : n ≤ s.length) : s.length = n := by
  have := congrArg List.length h
  simp at this
  omega
theorem addPrim_ty (E : Env) (f : Nat) (p : List AV → H → Option (AV × H)) : (addPrim E f p).ty = E.ty := rfl
theorem addPrim_plan (E : Env) (f : Nat) (p : List AV → H → Option (AV × H)) : (addPrim E f p).plan = E.plan := rfl

section
variable [Inhabited KA0] {E}
/-- A function of values alone, by what it comes to on the empty heap. -/
theorem pureL_ok {P : Program} (hE : EnvOk P E) {f : Nat} {fn : Func} (hfn : P.funcs[f]? = some fn) (hnm : (fn.name == "runtime.NumGoroutine") = false) (hb : fn.body.isNone = false) {p : List AV → Option AV}
    (hp : ∀ args v, p args = some v → ∃ v' h1, evL E f args ⟨.e, 0⟩ = some (v', h1) ∧ v'.pure = true ∧ v'.forget = v) : PrimOk P f (primPure p) :=
  primPure_ok hE hfn hnm hb fun args v hv => by
    obtain ⟨v', h1, he, h2, h3⟩ := hp args v hv
    obtain ⟨k, hk⟩ := lim_ex he
    exact ⟨k, v', h1, hk, h2, h3⟩
end
end Go.Ev
