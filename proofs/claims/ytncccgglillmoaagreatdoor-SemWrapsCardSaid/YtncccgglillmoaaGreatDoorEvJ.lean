/- Statements and calls of the abstract machine are the model's; regions that draw their order are EvH's. -/
import Derived.Test.YtncccgglillmoaaGreatDoorEvD
import Derived.Test.YtncccgglillmoaaGreatDoorEvF
import Derived.Laws.Tables
import Derived.Laws.Slices
import Derived.Laws.Strings2
import Derived.Lib.Strings
set_option autoImplicit false
set_option maxRecDepth 100000
set_option linter.unusedSimpArgs false
set_option linter.unusedVariables false
set_option linter.unusedSectionVars false
namespace Go.Ev
variable [Inhabited KA0] [MT]

def Post (G : Gh) (w : World) (h : H) (v : AV) (h' : H) : Ending → World → Prop :=
  fun e w' => ∃ G' V, e = .returned V ∧ VR G' w' V v ∧ Inv G' w' h' ∧ Ext G w h G' w' h'
/-- What a call comes to is what the machine says. -/
def CallOk (P : Program) (call : CallF) : Prop :=
  ∀ f args h v h', call f args h = some (v, h') →
    (∃ fn, P.funcs[f]? = some fn ∧ (fn.name == "runtime.NumGoroutine") = false ∧ fn.body.isNone = false) ∧
    ∀ G w (A : Array Value), Inv G w h → VRs G w A.toList args → Calls P f A w (Post G w h v h')

structure TmR (G : Gh) (w : World) (n : Nat) (tm : Tm) (a : Act) : Prop where
  size : a.tmps.size = n
  val : ∀ t v, tm.get t = some v → VR G w (a.tmps.getD t undef) v

/-- What an operation does is what the machine says. -/
def ActOk (P : Program) (ty : Nat → Option TyI) (call : CallF) : Prop :=
  ∀ G w h tm (a : Act) (o : Oper) v h', Inv G w h → (∀ x ∈ o.op.operands, ∀ u, val tm x = some u → VR G w (a.eval x) u) → evAct call ty tm h o.op = some (v, h') →
    ∀ (K : Act → World → Prop) (Q : Exit → Act → World → Prop), (∀ G' w' V, Inv G' w' h' → Ext G w h G' w' h' → VR G' w' V v → K (a.put o.dst V) w') → o.wp P a w K Q

section
variable {P : Program} {G : Gh} {w : World} {h : H} {n : Nat} {tm : Tm} {a : Act}

theorem val_VR (hv : ∀ t v, tm.get t = some v → VR G w (a.tmps.getD t undef) v) {x : Operand} {u : AV} (hx : val tm x = some u) : VR G w (a.eval x) u := by
  cases x with
  | tmp t => exact hv t u hx
  | const v => exact ofVal_VR G w hx
  | func f =>
    simp only [val, Option.some.injEq] at hx
    subst hx
    exact .fn f #[] #[] [] [] rfl rfl (fun i v x hv => by simp at hv) (fun i v x hv => by simp at hv)
  | global g => simp [val] at hx

theorem TmR.mono {G' : Gh} {w' : World} {h' : H} (E : Ext G w h G' w' h') (T : TmR G w n tm a) : TmR G' w' n tm a := ⟨T.size, fun t v ht => (T.val t v ht).mono E⟩

theorem size_put (a : Act) (d : Option Tmp) (V : Value) : (a.put d V).tmps.size = a.tmps.size := by cases d <;> simp [Act.put]
theorem TmR.put (T : TmR G w n tm a) {dst : Option Nat} {V : Value} {v : AV} (hv : VR G w V v) {tm' : Tm} (hp : putTm n dst v tm = some tm') : TmR G w n tm' (a.put dst V) := by
  refine ⟨by rw [size_put]; exact T.size, fun t u ht => ?_⟩
  cases dst with
  | none => simp only [putTm, Option.some.injEq] at hp; subst hp; exact T.val t u ht
  | some d =>
    simp only [putTm] at hp
    cases hd : Nat.blt d n with
    | false => rw [hd] at hp; simp at hp
    | true =>
      rw [hd] at hp
      simp only [cond_true, Option.some.injEq] at hp
      subst hp
      have hdn : d < a.tmps.size := by rw [T.size]; exact blt_nat.1 hd
      by_cases e : t = d
      · subst e
        rw [Go.Ev.T.get_set] at ht
        simp only [Option.some.injEq] at ht
        subst ht
        simpa [Act.put, hdn] using hv
      · rw [Go.Ev.T.get_set_ne _ _ e] at ht
        have := T.val t u ht
        simp only [Act.put]
        have e2 : (a.tmps.setIfInBounds d V).getD t undef = a.tmps.getD t undef := by
          simp [Array.getD_eq_getD_getElem?, Array.getElem?_setIfInBounds_ne (fun h => e h.symm)]
        rw [e2]
        exact this

theorem undef_VR (G : Gh) (w : World) : VR G w undef (.tup []) := .tup #[] [] rfl (fun i v x hv => by simp at hv)

theorem wanted_eq {ops : Array Oper} {o : Oper} (hg : ∀ j want, o.guard = some (j, want) → ∀ d, (ops[j]?).bind (·.dst) = some d → ∀ u, tm.get d = some u → VR G w (a.tmps.getD d undef) u)
    {b : Bool} (hw : wantedA ops tm o = some b) : Region.wanted o (yielded ops a.tmps) = b := by
  unfold wantedA at hw
  unfold Region.wanted yielded
  cases hq : o.guard with
  | none => rw [hq] at hw; simpa using hw
  | some p =>
    obtain ⟨j, want⟩ := p
    rw [hq] at hw
    simp only at hw ⊢
    cases hd : (ops[j]?).bind (·.dst) with
    | none =>
      rw [hd] at hw
      simp only [Option.some.injEq] at hw
      subst hw
      simp
    | some d =>
      rw [hd] at hw
      simp only at hw
      split at hw
      · rename_i c hc
        have := hg j want hq d hd _ hc
        simp only [Option.some.injEq] at hw
        have e : a.tmps[d]? = some (.bool c) := by
          generalize hx : a.tmps.getD d undef = x at this
          cases this
          rw [Array.getD_eq_getD_getElem?] at hx
          cases hy : a.tmps[d]? with
          | none => rw [hy] at hx; simp [undef] at hx
          | some y => rw [hy] at hx; simp at hx; rw [hx]
        simp [e, ← hw]
      · rename_i l hc
        have := hg j want hq d hd _ hc
        simp only [Option.some.injEq] at hw
        subst hw
        simp only [Option.bind_some]
        split
        · rename_i b' he
          rw [Array.getD_eq_getD_getElem?, he] at this
          simp only [Option.getD_some] at this
          cases this
        · simp
      · simp at hw

theorem one_sim {ty : Nat → Option TyI} {call : CallF} (hA : ActOk P ty call) {ops : Array Oper} {i : Nat} {o : Oper} (hi : ops[i]? = some o) (I : Inv G w h) (T : TmR G w n tm a)
    {tm' : Tm} {h' : H} (he : evOne call ty n ops o tm h = some (tm', h')) (Q : Exit → Act → World → Prop) (K : Act → World → Prop)
    (hK : ∀ G' w' a', Inv G' w' h' → Ext G w h G' w' h' → TmR G' w' n tm' a' → a'.defers = a.defers → K a' w') : wpOp P ops Q i K a w := by
  unfold evOne at he
  unfold wpOp
  rw [hi]
  simp only
  cases hw : wantedA ops tm o with
  | none => rw [hw] at he; simp at he
  | some b =>
    rw [hw] at he
    have hwt := wanted_eq (a := a) (fun j want _ d _ u hu => T.val d u hu) hw
    rw [hwt]
    cases b with
    | false =>
      simp only at he
      cases hp : putTm n o.dst (.tup []) tm with
      | none => rw [hp] at he; simp at he
      | some t1 =>
        rw [hp] at he
        simp only [Option.some.injEq, Prod.mk.injEq] at he
        obtain ⟨rfl, rfl⟩ := he
        simp only [Bool.false_eq_true, if_false]
        exact hK G w _ I (Ext.refl G w h) (T.put (undef_VR G w) hp) (by cases o.dst <;> rfl)
    | true =>
      simp only at he
      cases hv : evAct call ty tm h o.op with
      | none => rw [hv] at he; simp at he
      | some p =>
        obtain ⟨v, h1⟩ := p
        rw [hv] at he
        simp only at he
        cases hp : putTm n o.dst v tm with
        | none => rw [hp] at he; simp at he
        | some t1 =>
          rw [hp] at he
          simp only [Option.some.injEq, Prod.mk.injEq] at he
          obtain ⟨rfl, rfl⟩ := he
          simp only [if_true]
          refine .inl (hA G w h tm a o v h1 I (fun x _ u hu => val_VR T.val hu) hv K Q fun G' w' V I' E hV => ?_)
          exact hK G' w' _ I' E ((T.mono E).put hV hp) (by cases o.dst <;> rfl)

theorem seq_sim {ty : Nat → Option TyI} {call : CallF} (hA : ActOk P ty call) {ops : Array Oper} : ∀ (l : List Oper) (k : Nat), (∀ j, l[j]? = ops[k + j]?) → ∀ {G : Gh} {w : World} {h : H} {tm : Tm} {a : Act}, Inv G w h → TmR G w n tm a →
    ∀ {tm' : Tm} {h' : H}, evSeq call ty n ops l tm h = some (tm', h') → ∀ (Q : Exit → Act → World → Prop),
    (∀ G' w' a', Inv G' w' h' → Ext G w h G' w' h' → TmR G' w' n tm' a' → a'.defers = a.defers → Q .normal a' w') → wpOps P ops Q (List.range' k l.length) a w := by
  intro l
  induction l with
  | nil =>
    intro k _ G w h tm a I T tm' h' he Q hQ
    simp only [evSeq, Option.some.injEq, Prod.mk.injEq] at he
    obtain ⟨rfl, rfl⟩ := he
    exact hQ G w a I (Ext.refl G w h) T rfl
  | cons o l ih =>
    intro k hl G w h tm a I T tm' h' he Q hQ
    simp only [evSeq] at he
    cases h1 : evOne call ty n ops o tm h with
    | none => rw [h1] at he; simp at he
    | some p =>
      obtain ⟨t1, g1⟩ := p
      rw [h1] at he
      simp only at he
      rw [List.length_cons, List.range'_succ, wpOps_cons]
      refine one_sim hA (by have := hl 0; simpa using this.symm) I T h1 Q _ fun G' w' a' I' E T' hd => ?_
      refine ih (k + 1) (fun j => by have := hl (j + 1); simp only [List.getElem?_cons_succ] at this; rw [this]; congr 1; omega) I' T' he Q fun G2 w2 a2 I2 E2 T2 hd2 => ?_
      exact hQ G2 w2 a2 I2 (E.trans E2) T2 (hd2.trans hd)
end

end Go.Ev
/- Each operation of the abstract machine is the model's: what hangs on the operands alone. -/
namespace Go.Ev
variable [Inhabited KA0] [MT]

/-! ### Rows as one list of cells -/
theorem flat_get {α β : Type} (f : α → List β) (s : Nat) : ∀ (l : List α), (∀ x ∈ l, (f x).length = s) → ∀ (i j : Nat) x y, l[i]? = some x → (f x)[j]? = some y → (l.flatMap f)[i * s + j]? = some y
  | [], _, i, j, x, y, hx, _ => by simp at hx
  | a :: l, hs, 0, j, x, y, hx, hy => by
    simp at hx
    subst hx
    rw [List.flatMap_cons, Nat.zero_mul, Nat.zero_add, List.getElem?_append_left (getElem?_lt hy)]
    exact hy
  | a :: l, hs, i + 1, j, x, y, hx, hy => by
    simp at hx
    have ha := hs a (by simp)
    rw [List.flatMap_cons, List.getElem?_append_right (by rw [ha, Nat.add_mul]; omega), ha]
    have := flat_get f s l (fun z hz => hs z (by simp [hz])) i j x y hx hy
    rw [← this]
    congr 1
    rw [Nat.add_mul]; omega
theorem flat_length {α β : Type} (f : α → List β) (s : Nat) : ∀ (l : List α), (∀ x ∈ l, (f x).length = s) → (l.flatMap f).length = l.length * s
  | [], _ => by simp
  | a :: l, hs => by
    rw [List.flatMap_cons, List.length_append, hs a (by simp), flat_length f s l fun x hx => hs x (by simp [hx]), List.length_cons, Nat.add_mul]
    omega

theorem fold_splice : ∀ (l : List Value) (cs : Array Value) (off j0 : Nat), off + j0 + l.length ≤ cs.size →
    ((l.zipIdx j0).foldl (fun cs (x : Value × Nat) => cs.setIfInBounds (off + x.2) x.1) cs).toList = cs.toList.take (off + j0) ++ l ++ cs.toList.drop (off + j0 + l.length)
  | [], cs, off, j0, h => by simp
  | v :: l, cs, off, j0, h => by
    simp only [List.zipIdx_cons, List.foldl_cons]
    rw [fold_splice l _ off (j0 + 1) (by simp at h ⊢; omega)]
    have hlt : off + j0 < cs.toList.length := by simp at h ⊢; omega
    have hset : (cs.setIfInBounds (off + j0) v).toList = cs.toList.take (off + j0) ++ v :: cs.toList.drop (off + j0 + 1) := by
      rw [Array.toList_setIfInBounds, List.set_eq_take_append_cons_drop, if_pos hlt]
    rw [hset]
    have hA : (cs.toList.take (off + j0)).length = off + j0 := by simp at hlt ⊢; omega
    generalize cs.toList.take (off + j0) = A at *
    have e1 : (A ++ v :: cs.toList.drop (off + j0 + 1)).take (off + (j0 + 1)) = A ++ [v] := by
      rw [show off + (j0 + 1) = A.length + 1 by omega, List.take_append, List.take_of_length_le (Nat.le_succ _)]
      simp
    have e2 : (A ++ v :: cs.toList.drop (off + j0 + 1)).drop (off + (j0 + 1) + l.length) = cs.toList.drop (off + j0 + (l.length + 1)) := by
      rw [show off + (j0 + 1) + l.length = A.length + (l.length + 1) by omega, List.drop_append, List.drop_of_length_le (Nat.le_add_right _ _)]
      rw [Nat.add_sub_cancel_left, List.drop_succ_cons, List.drop_drop, List.nil_append]
      congr 1
      omega
    rw [e1, e2, List.length_cons]
    simp

section
variable {P : Program} {G : Gh} {w : World} {h : H}

theorem VRs.flat : ∀ {a : List Value} {c : List AV}, VRs G w a c → VRs G w (a.flatMap fun v => v.cells.toList) (c.flatMap AV.cells)
  | [], c, r => by
    cases c with
    | nil => exact VRs.nil G w
    | cons x c => have := r.1; simp at this
  | v :: a, c, r => by
    cases c with
    | nil => have := r.1; simp at this
    | cons x c =>
      obtain ⟨v', b, e, h1, h2⟩ := r.uncons
      simp only [List.cons.injEq] at e
      obtain ⟨rfl, rfl⟩ := e
      rw [List.flatMap_cons, List.flatMap_cons]
      exact h1.cells.append (VRs.flat h2)

theorem allVals_VRs {tm : Tm} {ρ : Operand → Value} : ∀ {l : List Operand} {vs : List AV}, allVals tm l = some vs → (∀ x ∈ l, ∀ u, val tm x = some u → VR G w (ρ x) u) → VRs G w (l.map ρ) vs
  | [], vs, h, _ => by simp [allVals] at h; subst h; exact VRs.nil G w
  | x :: l, vs, h, hv => by
    simp only [allVals] at h
    cases hx : val tm x with
    | none => rw [hx] at h; simp at h
    | some v =>
      rw [hx] at h
      simp only at h
      cases hl : allVals tm l with
      | none => rw [hl] at h; simp at h
      | some m =>
        rw [hl] at h
        simp only [Option.some.injEq] at h
        subst h
        exact .cons (hv x (by simp) v hx) (allVals_VRs hl fun y hy => hv y (by simp [hy]))

/-- A slice of values in new memory. -/
theorem VR.sl_new {cells : List Value} {e : Nat} {els : List AV} {s : Nat} (hs : ∀ x ∈ els, x.cells.length = s) (hc : VRs G w cells (els.flatMap AV.cells)) (I : Inv G w h) :
    VR G (w.alloc (.cells cells.toArray e)) (.slice (some ⟨w.heap.size, 0, none⟩) els.length els.length) (.sl .full els) := by
  have hf : G.fr w.heap.size = none := I.fresh.2.2
  have E := alloc_ext I (.cells cells.toArray e)
  have hlen : cells.length = els.length * s := by rw [hc.1]; exact flat_length _ s els hs
  refine .sl w.heap.size 0 els.length els.length s .full els (fun i j => cells.getD (i * s + j) undef) rfl (Nat.le_refl _) hs (fun i j hi hj => ⟨?_, .inl hf⟩) (fun i j x y hx hy => ?_) rfl
  · have hlt : i * s + j < cells.length := by
      rw [hlen]
      have : (i + 1) * s ≤ els.length * s := Nat.mul_le_mul_right s hi
      rw [Nat.add_mul] at this
      omega
    rw [cell_at (heap_alloc_new w _)]
    simp [List.getD_eq_getElem?_getD, List.getElem?_eq_getElem hlt, hlt]
  · have hg := flat_get AV.cells s els hs i j x y hx hy
    have hlt := getElem?_lt hg
    rw [← hc.1] at hlt
    have hu : cells[i * s + j]? = some cells[i * s + j] := List.getElem?_eq_getElem hlt
    have := hc.2 _ _ _ hu hg
    rw [List.getD_eq_getElem?_getD, hu]
    exact this.mono E

theorem fill_dense (size : Nat) : ∀ (Vs : List Value) (k : Nat) (Z : Array Value), (∀ V ∈ Vs, V.cells.size = size) → (k + Vs.length) * size = Z.size →
    ∃ C, Instr.fill (fun i => some (i * size, size)) Z ((List.range' k Vs.length).zip Vs) = some C ∧ C.toList = Z.toList.take (k * size) ++ Vs.flatMap (fun v => v.cells.toList)
  | [], k, Z, _, h => ⟨Z, by simp [Instr.fill], by
      simp at h ⊢
      rw [List.take_of_length_le (by simp; omega)]⟩
  | V :: Vs, k, Z, hV, h => by
    have h1 := hV V (by simp)
    simp only [List.length_cons] at h
    have hk : k * size + size ≤ Z.size := by
      rw [← h]
      have : (k + 1) * size ≤ (k + (Vs.length + 1)) * size := Nat.mul_le_mul_right _ (by omega)
      rw [Nat.add_mul] at this
      omega
    rw [List.length_cons, List.range'_succ, List.zip_cons_cons]
    simp only [Instr.fill, h1, ne_eq, not_true_eq_false, decide_false, Bool.false_or, gt_iff_lt]
    rw [if_neg (by simpa using hk)]
    have hsp := fold_splice V.cells.toList Z (k * size) 0 (by simp; omega)
    simp only [Nat.add_zero] at hsp
    have hzl : (V.cells.zipIdx.foldl (fun cs (x : Value × Nat) => cs.setIfInBounds (k * size + x.2) x.1) Z) = (V.cells.toList.zipIdx.foldl (fun cs (x : Value × Nat) => cs.setIfInBounds (k * size + x.2) x.1) Z) := by
      rw [← Array.foldl_toList, Array.toList_zipIdx]
    obtain ⟨C, hC1, hC2⟩ := fill_dense size Vs (k + 1) (V.cells.zipIdx.foldl (fun cs (x : Value × Nat) => cs.setIfInBounds (k * size + x.2) x.1) Z) (fun U hU => hV U (by simp [hU])) (by
      rw [hzl]
      have := congrArg List.length hsp
      simp at this
      have e3 : k + 1 + Vs.length = k + (Vs.length + 1) := by omega
      rw [e3, h]
      omega)
    refine ⟨C, hC1, ?_⟩
    rw [hC2, hzl, hsp]
    have e2 : (Z.toList.take (k * size) ++ V.cells.toList).length = (k + 1) * size := by simp [h1]; rw [Nat.add_mul]; omega
    rw [List.take_append_of_le_length (by omega), ← e2, List.take_length]
    simp
end

end Go.Ev
/- Each operation of the abstract machine is the model's: what hangs on the operands alone, one by one. -/
namespace Go.Ev
variable [Inhabited KA0] [MT]

theorem fillAt_toList {G : Gh} {w : World} {Z : Array Value} {cs : List AV} (r : VRs G w Z.toList cs) {V : Value} {v : AV} (hv : VR G w V v) {off : Nat} (hf : off + v.cells.length ≤ cs.length) :
    VRs G w (V.cells.zipIdx.foldl (fun cs (x : Value × Nat) => cs.setIfInBounds (off + x.2) x.1) Z).toList (fillAt cs off v.cells) := by
  have hzl : (V.cells.zipIdx.foldl (fun cs (x : Value × Nat) => cs.setIfInBounds (off + x.2) x.1) Z) = (V.cells.toList.zipIdx.foldl (fun cs (x : Value × Nat) => cs.setIfInBounds (off + x.2) x.1) Z) := by
    rw [← Array.foldl_toList, Array.toList_zipIdx]
  have hc := hv.cells
  have hl := r.1
  simp at hl
  rw [hzl, fold_splice V.cells.toList Z off 0 (by rw [hc.1]; omega), fillAt_eq cs off v.cells hf, hc.1]
  exact ((r.take _).append hc).append (r.drop _)

theorem fill_sim {G : Gh} {w : World} {fs : List (Nat × Nat × Bool)} {place : Nat → Option (Nat × Nat)} (hp : ∀ i off sz ag, fs[i]? = some (off, sz, ag) → place i = some (off, sz)) :
    ∀ {is : List Nat} {vs : List AV} {Vs : List Value} {Z : Array Value} {cs out : List AV}, VRs G w Vs vs → VRs G w Z.toList cs → fillF fs cs (is.zip vs) = some out →
    ∃ C, Instr.fill place Z (is.zip Vs) = some C ∧ VRs G w C.toList out := by
  intro is
  induction is with
  | nil =>
    intro vs Vs Z cs out hV hZ h
    simp only [List.zip_nil_left, fillF, Option.some.injEq] at h
    subst h
    exact ⟨Z, by simp [Instr.fill], hZ⟩
  | cons i is ih =>
    intro vs Vs Z cs out hV hZ h
    cases vs with
    | nil =>
      simp only [List.zip_nil_right, fillF, Option.some.injEq] at h
      subst h
      have : Vs = [] := List.eq_nil_of_length_eq_zero (by rw [hV.1]; rfl)
      subst this
      exact ⟨Z, by simp [Instr.fill], hZ⟩
    | cons v vs =>
      obtain ⟨V, Vs', rfl, h1, h2⟩ := hV.uncons
      simp only [List.zip_cons_cons, fillF] at h
      cases hf : fs[i]? with
      | none => rw [hf] at h; simp at h
      | some q =>
        obtain ⟨off, sz, ag⟩ := q
        rw [hf] at h
        simp only at h
        cases hc : (Nat.beq v.cells.length sz && Nat.ble (off + sz) cs.length) with
        | false => rw [hc] at h; simp at h
        | true =>
          rw [hc] at h
          simp only [cond_true] at h
          simp only [Bool.and_eq_true] at hc
          have hsz := beq_nat.1 hc.1
          have hle := Nat.le_of_ble_eq_true hc.2
          have hcv := h1.cells.1
          simp at hcv
          have hZl := hZ.1
          simp at hZl
          obtain ⟨C, k1, k2⟩ := ih h2 (fillAt_toList hZ h1 (off := off) (by omega)) h
          refine ⟨C, ?_, k2⟩
          rw [List.zip_cons_cons]
          simp only [Instr.fill, hp i off sz ag hf]
          rw [if_neg (by simp; omega)]
          exact k1

section
variable {P : Program} {G : Gh} {w : World} {h : H}

theorem zero_VR {ty : Nat → Option TyI} (hT : TyOk P ty) {t : Nat} {i : TyI} {z : AV} (ht : ty t = some i) (hz : i.zero = some z) :
    ∃ inf Z, P.info? t = some inf ∧ inf.zero = some Z ∧ VR G w Z z := by
  obtain ⟨inf, d, h1, h2, _, _, _, h3, _⟩ := tyOf_some (hT t i ht)
  rw [h3] at hz
  obtain ⟨Z, h4, h5⟩ := Option.bind_eq_some_iff.1 hz
  exact ⟨inf, Z, h1, h4, ofVal_VR G w h5⟩

theorem fields_places {fields : Array Field} {fs : List (Nat × Nat × Bool)} (h : all0 (fieldOf P) fields.toList = some fs) :
    fields.toList.mapM (fun f => (P.info? f.type).map fun i => (f.offset, i.size)) = some (fs.map fun x => (x.1, x.2.1)) := by
  generalize fields.toList = l at h
  induction l generalizing fs with
  | nil => simp [all0] at h; subst h; rfl
  | cons f l ih =>
    simp only [all0] at h
    cases hf : fieldOf P f with
    | none => rw [hf] at h; simp at h
    | some b =>
      rw [hf] at h
      simp only at h
      cases hl : all0 (fieldOf P) l with
      | none => rw [hl] at h; simp at h
      | some m =>
        rw [hl] at h
        simp only [Option.some.injEq] at h
        subst h
        unfold fieldOf at hf
        split at hf
        · rename_i i d h1 h2
          simp only [Option.some.injEq] at hf
          subst hf
          simp [List.mapM_cons, h1, ih hl]
        · simp at hf

theorem build_sim {ty : Nat → Option TyI} (hT : TyOk P ty) {t : Nat} {fs : List (Nat × Nat × Bool)} {sz byt : Nat} {z : AV} {ag : Bool} {ef : Option (List (Nat × Nat))} (ht : ty t = some ⟨.st fs, sz, byt, some z, ag, ef⟩)
    {parts : List (Nat × Operand)} {ρ : Operand → Value} {vs : List AV} (hv : VRs G w ((parts.map (·.2)).map ρ) vs) {cs : List AV} (hf : fillF fs z.cells ((parts.map (·.1)).zip vs) = some cs) :
    ∃ C, (Instr.build t (parts.map fun x => (x.1, ρ x.2)).toArray).run P w = .ok (.agg C) w ∧ VR G w (.agg C) (.agg cs) := by
  obtain ⟨inf, d, h1, h2, hk, _, _, _, _⟩ := tyOf_some (hT t _ ht)
  obtain ⟨fields, rfl, hfs⟩ := kind_struct hk
  obtain ⟨inf', Z, h3, h4, h5⟩ := zero_VR (G := G) (w := w) hT ht rfl
  rw [h1] at h3
  simp only [Option.some.injEq] at h3
  subst h3
  have hpl := fields_places hfs
  have e : (parts.map fun x => (x.1, ρ x.2)) = (parts.map (·.1)).zip ((parts.map (·.2)).map ρ) := by
    rw [List.map_map, List.zip_map']
    rfl
  obtain ⟨C, hC1, hC2⟩ := fill_sim (place := ((fs.map fun x => (x.1, x.2.1)).toArray[·]?)) (fun i off sz ag hi => by simp [hi]) hv h5.cells hf
  refine ⟨C, ?_, .agg C cs (by have := hC2.1; simpa using this) fun i u x hu hx => hC2.2 i u x (by simpa using hu) hx⟩
  refine run_build w t _ C ?_
  unfold Program.built
  rw [h1, h2]
  simp only [h4, hpl]
  rw [e]
  exact hC1

theorem sizesAre_spec {s : Nat} : ∀ {l : List AV}, sizesAre s l = true → ∀ x ∈ l, x.cells.length = s
  | [], _, x, hx => by simp at hx
  | v :: l, h, x, hx => by
    simp only [sizesAre, Bool.and_eq_true] at h
    rcases List.mem_cons.1 hx with rfl | hx
    · exact beq_nat.1 h.1
    · exact sizesAre_spec h.2 x hx
theorem dense_spec : ∀ {l : List (Nat × Operand)} {k : Nat}, denseFrom k l = true → l.map (·.1) = List.range' k l.length
  | [], k, _ => rfl
  | (i, x) :: l, k, h => by
    simp only [denseFrom, Bool.and_eq_true] at h
    rw [List.map_cons, List.length_cons, List.range'_succ, dense_spec h.2, beq_nat.1 h.1]

theorem buildSlice_run {ty : Nat → Option TyI} (hT : TyOk P ty) (I : Inv G w h) {t e len : Nat} {s1 b1 : Nat} {z1 : Option AV} {a1 : Bool} {ef1 ef2 : Option (List (Nat × Nat))} (ht : ty t = some ⟨.sl e, s1, b1, z1, a1, ef1⟩)
    {k : TK} {sz byt : Nat} {z : AV} {ag : Bool} (he : ty e = some ⟨k, sz, byt, some z, ag, ef2⟩) {parts : List (Nat × Operand)} {ρ : Operand → Value} {vs : List AV} (hv : VRs G w ((parts.map (·.2)).map ρ) vs)
    (hd : denseFrom 0 parts = true) (hl : vs.length = len) (hs : sizesAre sz vs = true) (hsz : 0 < sz) (hzl : z.cells.length = sz) (hmax : len * sz ≤ 16777216) :
    ∃ C : Array Value, (Instr.buildSlice t len (parts.map fun x => (x.1, ρ x.2)).toArray).run P w = .ok (.slice (some ⟨w.heap.size, 0, none⟩) len len) (w.alloc (.cells C e)) ∧ VRs G w C.toList (vs.flatMap AV.cells) ∧ C.size = len * sz := by
  obtain ⟨inf, d, h1, h2, hk, _⟩ := tyOf_some (hT t _ ht)
  have := kind_slice hk
  subst this
  obtain ⟨ie, de, g1, g2, _, hsize, _⟩ := tyOf_some (hT e _ he)
  simp only at hsize
  obtain ⟨ie', Z, g3, g4, g5⟩ := zero_VR (G := G) (w := w) hT he rfl
  rw [g1] at g3
  simp only [Option.some.injEq] at g3
  subst g3
  have hZs : Z.cells.size = sz := by have := g5.cells.1; simp at this; omega
  have hvl := hv.1
  simp at hvl
  have epar : (parts.map fun x => (x.1, ρ x.2)) = (parts.map (·.1)).zip ((parts.map (·.2)).map ρ) := by
    rw [List.map_map, List.zip_map']
    rfl
  have hVs : ∀ V ∈ (parts.map (·.2)).map ρ, V.cells.size = sz := by
    intro V hV
    obtain ⟨i, hi⟩ := List.getElem?_of_mem hV
    have hil := getElem?_lt hi
    rw [hv.1] at hil
    have hx := hv.2 i V vs[i] hi (List.getElem?_eq_getElem hil)
    have := hx.cells.1
    rw [sizesAre_spec hs _ (List.getElem_mem hil)] at this
    simpa using this
  obtain ⟨C, hC1, hC2⟩ := fill_dense sz ((parts.map (·.2)).map ρ) 0 ((Array.range (len * sz)).map (Z.cells[· % Z.cells.size]!)) hVs (by simp [hvl, hl])
  rw [List.length_map, List.length_map, ← dense_spec hd, ← epar] at hC1
  simp only [Nat.zero_mul, List.take_zero, List.nil_append] at hC2
  have hflat : VRs G w C.toList (vs.flatMap AV.cells) := by rw [hC2]; exact hv.flat
  refine ⟨C, ?_, hflat, ?_⟩
  · unfold Instr.buildSlice
    have hbig : ¬ len * sz > 2 ^ 24 := by omega
    simp only [Sem.run_bind, run_under h2, Result.andThen_ok, run_sizeOf g1, ← hsize, hbig, if_false]
    by_cases hz0 : len * sz = 0
    · have e0 : ((Array.range (len * sz)).map (Z.cells[· % Z.cells.size]!)) = ((Array.range (len * sz)).map ((#[] : Array Value)[· % (#[] : Array Value).size]!)) := by rw [hz0]; simp
      rw [e0] at hC1
      rw [hz0] at hC1 ⊢
      simp only [if_true, Sem.run_pure, Result.andThen_ok, hC1, newRow, Sem.run_bind, run_newObj, World.alloc_eq]
    · simp only [hz0, if_false, Sem.run_bind, run_zero g1 g4, Result.andThen_ok, Sem.run_pure, hC1, newRow, run_newObj, World.alloc_eq]
  · have := hflat.1
    rw [flat_length _ sz vs (sizesAre_spec hs), hl] at this
    simpa using this
theorem buildSlice_sim {ty : Nat → Option TyI} (hT : TyOk P ty) (I : Inv G w h) {t e len : Nat} {s1 b1 : Nat} {z1 : Option AV} {a1 : Bool} {ef1 ef2 : Option (List (Nat × Nat))} (ht : ty t = some ⟨.sl e, s1, b1, z1, a1, ef1⟩)
    {k : TK} {sz byt : Nat} {z : AV} {ag : Bool} (he : ty e = some ⟨k, sz, byt, some z, ag, ef2⟩) {parts : List (Nat × Operand)} {ρ : Operand → Value} {vs : List AV} (hv : VRs G w ((parts.map (·.2)).map ρ) vs)
    (hd : denseFrom 0 parts = true) (hl : vs.length = len) (hs : sizesAre sz vs = true) (hsz : 0 < sz) (hzl : z.cells.length = sz) (hmax : len * sz ≤ 16777216) :
    ∃ V w', (Instr.buildSlice t len (parts.map fun x => (x.1, ρ x.2)).toArray).run P w = .ok V w' ∧ Inv G w' h ∧ Ext G w h G w' h ∧ VR G w' V (.sl .full vs) := by
  obtain ⟨C, h1, hflat, _⟩ := buildSlice_run (G := G) (w := w) hT I ht he hv hd hl hs hsz hzl hmax
  refine ⟨_, _, h1, alloc_inv I _, alloc_ext I _, ?_⟩
  have := VR.sl_new (e := e) (sizesAre_spec hs) hflat I
  rw [hl] at this
  simpa using this
end

end Go.Ev
