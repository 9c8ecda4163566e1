/- A region that draws its order: where two of its operations have no order, both orders suffice. -/
import Derived.Test.YtncccgglillmoaaGreatDoorEvM
set_option autoImplicit false
set_option linter.unusedSectionVars false
set_option linter.unusedVariables false
set_option linter.unusedSimpArgs false
namespace Go.Ev

theorem addEdge_size (ops : Array Oper) (b a : Nat) : (addEdge ops b a).size = ops.size := by simp [addEdge]
theorem addEdge_get (ops : Array Oper) (b a i : Nat) : (addEdge ops b a)[i]? = if b = i then (ops[i]?).map (fun o => { o with after := o.after.push ⟨a, .data⟩ }) else ops[i]? := by
  simp only [addEdge, Array.getElem?_modify]
section
variable {P : Program} {ops : Array Oper} {Q : Exit → Act → World → Prop}
theorem ready_addEdge {listed : Array Bool} {b a i : Nat} : i ∈ Region.ready .any (addEdge ops b a) listed ↔ i ∈ Region.ready .any ops listed ∧ (i = b → listed.getD a false = true) := by
  unfold Region.ready
  rw [addEdge_size]
  simp only [List.mem_filter, addEdge_get, Bool.and_eq_true]
  by_cases hb : b = i
  · subst hb
    simp only [if_true]
    cases hi : ops[b]? with
    | none => simp
    | some o =>
      have hb2 : (!Region.binds .any (⟨a, .data⟩ : Edge) || listed.getD a false) = listed.getD a false := rfl
      simp only [Option.map_some, Option.getD_some, Array.all_push]
      rw [hb2]
      simp only [Bool.and_eq_true]
      constructor
      · rintro ⟨h1, h2, h3, h4⟩
        exact ⟨⟨h1, h2, h3⟩, fun _ => h4⟩
      · rintro ⟨⟨h1, h2, h3⟩, h4⟩
        exact ⟨h1, h2, h3, by simpa using h4⟩
  · rw [if_neg hb]
    constructor
    · rintro ⟨h1, h2⟩
      exact ⟨⟨h1, h2⟩, fun e => absurd e.symm hb⟩
    · rintro ⟨h, _⟩
      exact h
theorem wpOp_addEdge {b a i : Nat} {K : Act → World → Prop} {act : Act} {w : World} : wpOp P (addEdge ops b a) Q i K act w ↔ wpOp P ops Q i K act w := by
  have hy : yielded (addEdge ops b a) act.tmps = yielded ops act.tmps := by
    funext j
    have : ((addEdge ops b a)[j]?).bind (·.dst) = (ops[j]?).bind (·.dst) := by
      rw [addEdge_get]
      split
      · cases ops[j]? <;> rfl
      · rfl
    unfold yielded
    rw [this]
  unfold wpOp
  rw [hy, addEdge_get]
  by_cases hb : b = i
  · rw [if_pos hb]
    cases hi : ops[i]? with
    | none => exact Iff.rfl
    | some o => exact Iff.rfl
  · rw [if_neg hb]
theorem listed_stays {listed : Array Bool} {a i : Nat} (h : listed.getD a false = true) : (listed.setIfInBounds i true).getD a false = true := by
  rw [Array.getD_eq_getD_getElem?] at h ⊢
  rw [Array.getElem?_setIfInBounds]
  split
  · rename_i e
    subst e
    cases hl : listed[i]? with
    | none => rw [hl] at h; simp at h
    | some v =>
      have := (Array.getElem?_eq_some_iff.1 hl).1
      simp [this]
  · exact h
theorem listed_now {listed : Array Bool} {i : Nat} (h : i < listed.size) : (listed.setIfInBounds i true).getD i false = true := by
  rw [Array.getD_eq_getD_getElem?, Array.getElem?_setIfInBounds_self_of_lt h]
  rfl
/-- The one is done: the added edge says nothing any more. -/
theorem wpAny_done {b a : Nat} : ∀ (fuel : Nat) {listed : Array Bool} {act : Act} {w : World}, listed.getD a false = true → wpAny P .any (addEdge ops b a) Q fuel listed act w → wpAny P .any ops Q fuel listed act w
  | 0, listed, act, w, ha, h => by
    refine ⟨List.eq_nil_iff_forall_not_mem.2 fun i hi => ?_, h.2⟩
    have := (ready_addEdge (b := b) (a := a)).2 ⟨hi, fun _ => ha⟩
    rw [h.1] at this
    cases this
  | fuel + 1, listed, act, w, ha, h => by
    refine ⟨fun hr => h.1 (List.eq_nil_iff_forall_not_mem.2 fun i hi => ?_), fun i hi => ?_⟩
    · have := (ready_addEdge.1 hi).1
      rw [hr] at this
      cases this
    · exact wpOp_mono (fun _ _ hk => wpAny_done fuel (listed_stays ha) hk) (wpOp_addEdge.1 (h.2 i ((ready_addEdge (b := b) (a := a)).2 ⟨hi, fun _ => ha⟩)))
/-- Both orders of two operations: any order. -/
theorem wpAny_split {a b : Nat} (hab : a ≠ b) (hc : ∀ i, i ≠ a → i ≠ b → ∀ (K1 K2 : Act → World → Prop) act w, wpOp P ops Q i K1 act w → wpOp P ops Q i K2 act w → wpOp P ops Q i (fun x y => K1 x y ∧ K2 x y) act w) :
    ∀ (fuel : Nat) {listed : Array Bool} {act : Act} {w : World}, a < listed.size → b < listed.size → wpAny P .any (addEdge ops b a) Q fuel listed act w → wpAny P .any (addEdge ops a b) Q fuel listed act w → wpAny P .any ops Q fuel listed act w
  | 0, listed, act, w, la, lb, h1, h2 => by
    refine ⟨List.eq_nil_iff_forall_not_mem.2 fun i hi => ?_, h1.2⟩
    by_cases e : i = b
    · subst e
      have := (ready_addEdge (b := a) (a := i)).2 ⟨hi, fun e => absurd e.symm hab⟩
      rw [h2.1] at this
      cases this
    · have := (ready_addEdge (b := b) (a := a)).2 ⟨hi, fun e2 => absurd e2 e⟩
      rw [h1.1] at this
      cases this
  | fuel + 1, listed, act, w, la, lb, h1, h2 => by
    refine ⟨fun hr => h1.1 (List.eq_nil_iff_forall_not_mem.2 fun i hi => ?_), fun i hi => ?_⟩
    · have := (ready_addEdge.1 hi).1
      rw [hr] at this
      cases this
    · by_cases ea : i = a
      · subst ea
        exact wpOp_mono (fun _ _ hk => wpAny_done fuel (listed_now la) hk) (wpOp_addEdge.1 (h1.2 i (ready_addEdge.2 ⟨hi, fun e => absurd e hab⟩)))
      · by_cases eb : i = b
        · subst eb
          exact wpOp_mono (fun _ _ hk => wpAny_done fuel (listed_now lb) hk) (wpOp_addEdge.1 (h2.2 i (ready_addEdge.2 ⟨hi, fun e => absurd e ea⟩)))
        · have k1 := wpOp_addEdge.1 (h1.2 i (ready_addEdge.2 ⟨hi, fun e => absurd e eb⟩))
          have k2 := wpOp_addEdge.1 (h2.2 i (ready_addEdge.2 ⟨hi, fun e => absurd e ea⟩))
          exact wpOp_mono (fun _ _ hk => wpAny_split hab hc fuel (by rw [Array.size_setIfInBounds]; exact la) (by rw [Array.size_setIfInBounds]; exact lb) hk.1 hk.2) (hc i ea eb _ _ act w k1 k2)
/-- It yields a value, or nothing: no call. -/
def Calm (P : Program) (o : Oper) : Prop := ∀ (ρ : Operand → Value) w n w', (execOp ρ o).run P w = .ok n w' → (∃ v, n = .value v) ∨ n = .skip
def calmB : Op → Bool
  | .move .. | .assign .. | .pick .. | .alloc .. | .box .. | .build .. | .buildSlice .. | .load .. | .store .. | .binOp .. | .unOp .. | .convert .. | .makeInterface .. | .makeFunc .. | .makeMap .. | .slice .. | .fieldAddr .. | .field .. | .indexAddr .. | .index .. | .lookup .. | .mapUpdate .. | .insert .. | .extract .. | .nilCheck .. => true
  | .call c => match c.callee with
    | .builtin .len => true
    | .builtin .append => true
    | _ => false
  | _ => false
theorem v_calm {s : Sem Value} {w : World} {n : Next} {w' : World} (h : (do pure (Next.value (← s)) : Sem Next).run P w = .ok n w') : ∃ v, n = .value v := by
  rw [Sem.run_bind] at h
  cases hr : s.run P w with
  | ok x w1 =>
    rw [hr] at h
    simp only [Result.andThen_ok, Sem.run_pure, Result.ok.injEq] at h
    exact ⟨x, h.1.symm⟩
  | halt x w1 => rw [hr] at h; cases h
theorem u_calm {s : Sem Unit} {w : World} {n : Next} {w' : World} (h : (do s; pure Next.skip : Sem Next).run P w = .ok n w') : n = .skip := by
  rw [Sem.run_bind] at h
  cases hr : s.run P w with
  | ok x w1 =>
    rw [hr] at h
    simp only [Result.andThen_ok, Sem.run_pure, Result.ok.injEq] at h
    exact h.1.symm
  | halt x w1 => rw [hr] at h; cases h
def CalmS (P : Program) (s : Sem Next) : Prop := ∀ w n w', s.run P w = .ok n w' → ∃ v, n = .value v
theorem calmS_pure (v : Value) : CalmS P (pure (Next.value v)) := by
  intro w n w' hr
  simp only [Sem.run_pure, Result.ok.injEq] at hr
  exact ⟨_, hr.1.symm⟩
theorem calmS_bind {α : Type} {s : Sem α} {f : α → Sem Next} (h : ∀ x, CalmS P (f x)) : CalmS P (s >>= f) := by
  intro w n w' hr
  rw [Sem.run_bind] at hr
  cases hs : s.run P w with
  | ok x w1 => rw [hs] at hr; exact h x _ _ _ hr
  | halt x w1 => rw [hs] at hr; cases hr
theorem calmS_panic : CalmS P (runtimePanic .nilDeref) := by
  intro w n w' hr
  have : (runtimePanic .nilDeref : Sem Next).run P w = .halt (.panic (.iface P.rt.errorString (strVal "invalid memory address or nil pointer dereference"))) w := rfl
  rw [this] at hr
  cases hr
theorem calm_of {o : Oper} (h : calmB o.op = true) : Calm P o := by
  intro ρ w n w' hr
  unfold execOp at hr
  cases ho : o.op <;> rw [ho] at h hr <;> simp only [calmB, Bool.false_eq_true] at h
  case pick c a b =>
    refine .inl ?_
    simp only [Sem.run_bind] at hr
    cases hb : (asBool (ρ c)).run P w with
    | ok x w1 =>
      rw [hb] at hr
      simp only [Result.andThen_ok, Sem.run_pure, Result.ok.injEq] at hr
      exact ⟨_, hr.1.symm⟩
    | halt x w1 => rw [hb] at hr; cases hr
  case nilCheck x =>
    refine .inl ((?_ : CalmS P _) w n w' hr)
    dsimp only
    split
    · exact calmS_panic
    · exact calmS_panic
    · exact calmS_panic
    · split
      · exact calmS_panic
      · refine calmS_bind fun _ => calmS_bind fun _ => ?_
        split
        · exact calmS_bind fun _ => calmS_pure _
        · exact calmS_pure _
      · exact calmS_pure _
    · exact calmS_pure _
  case call c =>
    obtain ⟨cal, args, ats⟩ := c
    simp only at h
    split at h
    · simp only [resolve, Sem.run_bind, Sem.run_pure, Result.andThen_ok, invoke, builtin] at hr
      exact .inl (v_calm (by simpa only [Sem.run_bind, Sem.run_pure] using hr))
    · simp only [resolve, Sem.run_bind, Sem.run_pure, Result.andThen_ok, invoke, builtin] at hr
      exact .inl (v_calm (by simpa only [Sem.run_bind, Sem.run_pure] using hr))
    · cases h
  all_goals first
    | exact .inl (v_calm hr)
    | exact .inr (u_calm hr)
    | (simp only [Sem.run_pure, Result.ok.injEq] at hr; exact .inl ⟨_, hr.1.symm⟩)
theorem calm_conj {i : Nat} (h : ∀ o, ops[i]? = some o → Calm P o) (K1 K2 : Act → World → Prop) (act : Act) (w : World) (h1 : wpOp P ops Q i K1 act w) (h2 : wpOp P ops Q i K2 act w) : wpOp P ops Q i (fun x y => K1 x y ∧ K2 x y) act w := by
  unfold wpOp at *
  cases ho : ops[i]? with
  | none => rw [ho] at h1 h2; exact ⟨h1, h2⟩
  | some o =>
    rw [ho] at h1 h2
    simp only at h1 h2 ⊢
    split
    · rename_i hw
      rw [if_pos hw] at h1 h2
      rcases h1 with h1 | h1
      · rcases h2 with h2 | h2
        · refine .inl ?_
          have hc := h o ho act.eval w
          unfold Oper.wp at *
          generalize (execOp act.eval o).run P w = r at *
          cases r with
          | ok n w' =>
            rcases hc n w' rfl with ⟨v, rfl⟩ | rfl
            · exact ⟨h1, h2⟩
            · exact ⟨h1, h2⟩
          | halt x w' => cases x <;> first | exact h1 | exact h2
        · exact .inr h2
      · exact .inr h1
    · rename_i hw
      rw [if_neg hw] at h1 h2
      exact ⟨h1, h2⟩
end

/-! ### Equal states -/
theorem T.same_eq {α : Type} {f : α → α → Bool} (hf : ∀ x y, f x y = true → x = y) : ∀ {t u : T α}, T.same f t u = true → t = u
  | .e, .e, _ => rfl
  | .e, .n _ _ _, h => by simp [T.same] at h
  | .n _ _ _, .e, h => by simp [T.same] at h
  | .n a l r, .n b m s, h => by
    simp only [T.same, Bool.and_eq_true] at h
    obtain ⟨h1, h2, h3⟩ := h
    rw [T.same_eq hf h2, T.same_eq hf h3]
    cases a with
    | none => cases b with
      | none => rfl
      | some y => simp at h1
    | some x => cases b with
      | none => simp at h1
      | some y => rw [hf x y h1]
theorem pairsSame_eq : ∀ {l m : List (AV × AV)}, pairsSame l m = true → l = m
  | [], [], _ => rfl
  | [], _ :: _, h => by simp [pairsSame] at h
  | _ :: _, [], h => by simp [pairsSame] at h
  | (a, b) :: l, (c, d) :: m, h => by
    simp only [pairsSame, Bool.and_eq_true] at h
    rw [AV.beq_eq _ _ h.1, AV.beq_eq _ _ h.2.1, pairsSame_eq h.2.2]
theorem objSame_eq (a b : Obj) (h : objSame a b = true) : a = b := by
  cases a <;> cases b <;> simp only [objSame, Bool.false_eq_true, Bool.and_eq_true, beq_nat] at h
  · rw [AV.beqs_eq _ _ h]
  · rw [pairsSame_eq h]
  · rw [h.1, h.2.1, h.2.2]
  · rw [h.1, h.2.1, h.2.2.1, AV.beqs_eq _ _ h.2.2.2]
theorem stSame_eq {x y : Tm × H} (h : stSame x y = true) : x = y := by
  obtain ⟨a, b, n⟩ := x
  obtain ⟨c, d, m⟩ := y
  simp only [stSame, Bool.and_eq_true] at h
  rw [T.same_eq AV.beq_eq h.1, T.same_eq objSame_eq h.2.1, beq_nat.1 h.2.2]

/-! ### Alternatives -/
section
variable [Inhabited KA0] [MT]
def altOk : Array Oper → Alt → Bool
  | ops, .leaf pl => planOk ops pl
  | ops, .split a b l r => !Nat.beq a b && (Nat.blt a ops.size && (Nat.blt b ops.size && ((List.range ops.size).all (fun i => Nat.beq i a || (Nat.beq i b || (match ops[i]? with | some o => calmB o.op | none => true))) && (altOk (addEdge ops b a) l && altOk (addEdge ops a b) r))))
variable {P : Program} {ty : Nat → Option TyI} {call : CallF} {n : Nat}
theorem alt_any (hA : ActOk P ty call) (hN : AllocOk P ty) {G : Gh} {w : World} {h : H} {tm : Tm} {a : Act} (I : Inv G w h) {res : Tm × H} (Q : Exit → Act → World → Prop)
    (hQ : ∀ G' w' a', Inv G' w' res.2 → Ext G w h G' w' res.2 → TmR G' w' n res.1 a' → a'.defers = a.defers → Q .normal a' w') (T : TmR G w n tm a) :
    ∀ (alt : Alt) (ops : Array Oper), altOk ops alt = true → evAlt call ty n ops alt tm h = some res → wpAny P .any ops Q ops.size (Array.replicate ops.size false) a w.drew
  | .leaf pl, ops, ho, he => draw_sim0 hA hN ho I T he Q hQ
  | .split i j l r, ops, ho, he => by
    simp only [altOk, Bool.and_eq_true, Bool.not_eq_true'] at ho
    obtain ⟨o1, o2, o3, o4, o5, o6⟩ := ho
    have hij : i ≠ j := by rintro rfl; rw [beq_nat.2 rfl] at o1; cases o1
    simp only [evAlt] at he
    cases h1 : evAlt call ty n (addEdge ops j i) l tm h with
    | none => rw [h1] at he; simp at he
    | some x =>
      cases h2 : evAlt call ty n (addEdge ops i j) r tm h with
      | none => rw [h1, h2] at he; simp at he
      | some y =>
        rw [h1, h2] at he
        simp only at he
        cases hs : stSame x y with
        | false => rw [hs] at he; simp at he
        | true =>
          rw [hs] at he
          simp only [cond_true, Option.some.injEq] at he
          subst he
          have := stSame_eq hs
          subst this
          have k1 := alt_any hA hN I Q hQ T l (addEdge ops j i) o5 h1
          have k2 := alt_any hA hN I Q hQ T r (addEdge ops i j) o6 h2
          rw [addEdge_size] at k1 k2
          refine wpAny_split hij (fun q e1 e2 K1 K2 act w' => calm_conj (fun o hq => calm_of ?_) K1 K2 act w') ops.size (by simpa using blt_nat.1 o2) (by simpa using blt_nat.1 o3) k1 k2
          have hql : q < ops.size := (Array.getElem?_eq_some_iff.1 hq).1
          have := List.all_eq_true.1 o4 q (by simpa using hql)
          rw [beq_no e1, beq_no e2, hq] at this
          simpa using this
/-- A region that draws its order, by its alternatives. -/
theorem alt_sim (hA : ActOk P ty call) (hN : AllocOk P ty) (hm : P.follows .mixedOrders = true) {ops : Array Oper} {alt : Alt} (hp : altOk ops alt = true) {G : Gh} {w : World} {h : H} {tm : Tm} {a : Act} (I : Inv G w h) (T : TmR G w n tm a)
    {res : Tm × H} (he : evAlt call ty n ops alt tm h = some res) (id : Nat) (Q : Exit → Act → World → Prop)
    (hQ : ∀ G' w' a', Inv G' w' res.2 → Ext G w h G' w' res.2 → TmR G' w' n res.1 a' → a'.defers = a.defers → Q .normal a' w') : (Code.region id ops true).wp P Q a w :=
  wp_region_any hm (alt_any hA hN I Q hQ T alt ops hp he)
end
end Go.Ev
