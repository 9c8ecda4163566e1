/- Each operation of the abstract machine is the model's: all that hang on the operands alone. -/
import Derived.Test.YtncccgglillmoaaGreatDoorEvN
set_option autoImplicit false
set_option linter.unusedSectionVars false
set_option linter.unusedVariables false
set_option linter.unusedSimpArgs false
namespace Go.Ev
variable [Inhabited KA0] [MT]

section
variable {P : Program} {G : Gh} {w : World} {h : H}

theorem part_sim {t : Nat} {inf : TypeInfo} {d : TypeDesc} (hi : P.info? t = some inf) (hd : P.underlying t = some d) {C : Array Value} {cs : List AV} (hC : C.size = cs.length) (h1 : ∀ (i : Nat) v x, C[i]? = some v → cs[i]? = some x → VR G w v x)
    {off : Nat} {v : AV} (hv : readAt (isAggD d) inf.size cs off = some v) : ∃ V, (part t C off).run P w = .ok V w ∧ VR G w V v := by
  unfold part
  simp only [Sem.run_bind, run_isAgg hd, Result.andThen_ok]
  unfold readAt at hv
  cases ha : isAggD d with
  | true =>
    rw [ha] at hv
    simp only [cond_true] at hv
    cases hb : Nat.ble (off + inf.size) cs.length with
    | false => rw [hb] at hv; simp at hv
    | true =>
      rw [hb] at hv
      have hle := Nat.le_of_ble_eq_true hb
      simp only [cond_true, Option.some.injEq] at hv
      subst hv
      refine ⟨.agg (C.extract off (off + inf.size)), by simp only [if_true, Sem.run_bind, run_sizeOf hi, Result.andThen_ok, Sem.run_pure], .agg _ _ (by simp; omega) fun i u x hu hx => ?_⟩
      rw [List.getElem?_take] at hx
      split at hx
      · rename_i hlt
        rw [List.getElem?_drop] at hx
        rw [Array.getElem?_extract] at hu
        split at hu
        · exact h1 (off + i) u x hu hx
        · cases hu
      · cases hx
  | false =>
    rw [ha] at hv
    simp only [cond_false] at hv
    have hl := getElem?_lt hv
    rw [← hC] at hl
    refine ⟨C[off], ?_, h1 off _ v (Array.getElem?_eq_getElem hl) hv⟩
    simp [Array.getElem?_eq_getElem hl]

theorem field_some {ty : Nat → Option TyI} (hT : TyOk P ty) {t : Nat} {fs : List (Nat × Nat × Bool)} {sz byt : Nat} {z : Option AV} {ag : Bool} {ef : Option (List (Nat × Nat))} (ht : ty t = some ⟨.st fs, sz, byt, z, ag, ef⟩) {f off fsz : Nat} {fag : Bool} (hf : fs[f]? = some (off, fsz, fag)) :
    ∃ fields fd inf d, P.underlying t = some (.struct fields) ∧ fields[f]? = some fd ∧ P.info? fd.type = some inf ∧ P.underlying fd.type = some d ∧ fd.offset = off ∧ inf.size = fsz ∧ isAggD d = fag := by
  obtain ⟨inf, d, h1, h2, hk, _⟩ := tyOf_some (hT t _ ht)
  obtain ⟨fields, rfl, hfs⟩ := kind_struct hk
  obtain ⟨fd, hfd, he⟩ := (all0_some hfs).2 f _ hf
  unfold fieldOf at he
  split at he
  · rename_i i' d' e1 e2
    simp only [Option.some.injEq, Prod.mk.injEq] at he
    exact ⟨fields, fd, i', d', h2, by simpa using hfd, e1, e2, he.1, he.2.1, he.2.2⟩
  · simp at he

theorem pure_sim {ty : Nat → Option TyI} (hT : TyOk P ty) (I : Inv G w h) {o : Oper} {tm : Tm} {a : Act} (hk : opKind o.op = .pure) (hv : ∀ x ∈ o.op.operands, ∀ u, val tm x = some u → VR G w (a.eval x) u)
    {v : AV} (he : evPure ty tm o.op = some v) : ∃ V w', (execOp a.eval o).run P w = .ok (.value V) w' ∧ Inv G w' h ∧ Ext G w h G w' h ∧ VR G w' V v := by
  have same : ∀ {V : Value}, VR G w V v → (execOp a.eval o).run P w = .ok (.value V) w → ∃ V w', (execOp a.eval o).run P w = .ok (.value V) w' ∧ Inv G w' h ∧ Ext G w h G w' h ∧ VR G w' V v :=
    fun h1 h2 => ⟨_, w, h2, I, Ext.refl G w h, h1⟩
  have lift : ∀ {V : Value} {s : Sem Value}, s.run P w = .ok V w → (do pure (Next.value (← s)) : Sem Next).run P w = .ok (.value V) w := by
    intro V s hs
    simp only [Sem.run_bind, hs, Result.andThen_ok, Sem.run_pure]
  unfold execOp at *
  cases ho : o.op <;> rw [ho] at hk hv he <;> simp only [evPure, reduceCtorEq] at he <;> simp only [ho] at *
  case move x => exact same (hv x (by simp [Op.operands]) v he) rfl
  case assign x => exact same (hv x (by simp [Op.operands]) v he) rfl
  case pick c x y =>
    split at he
    · rename_i t hc
      have hcv := hv c (by simp [Op.operands]) _ hc
      generalize a.eval c = zc at *
      cases hcv
      cases t with
      | true => exact same (hv x (by simp [Op.operands]) v he) (by simp [asBool])
      | false => exact same (hv y (by simp [Op.operands]) v he) (by simp [asBool])
    · simp at he
  case build t parts =>
    split at he
    · rename_i fs sz byt z ag ef ht
      split at he
      · rename_i vs hvs
        obtain ⟨cs, hcs, rfl⟩ := Option.map_eq_some_iff.1 he
        have hV := allVals_VRs (G := G) (w := w) (ρ := a.eval) hvs fun x hx u hu => hv x (by simpa [Op.operands] using hx) u hu
        obtain ⟨C, h1, h2⟩ := build_sim hT ht hV hcs
        refine same h2 (lift ?_)
        have e : (parts.map fun (i, x) => (i, a.eval x)) = (parts.toList.map fun x => (x.1, a.eval x.2)).toArray := by apply Array.ext'; simp
        rw [e]
        exact h1
      · simp at he
    · simp at he
  case buildSlice t len parts =>
    split at he
    · rename_i e s1 b1 z1 a1 f1 ht
      split at he
      · rename_i k sz byt z ag ef hte
        split at he
        · rename_i vs hvs
          cases hc : (denseFrom 0 parts.toList && (Nat.beq vs.length len && (sizesAre sz vs && (Nat.blt 0 sz && (Nat.beq z.cells.length sz && Nat.ble (len * sz) 16777216))))) with
          | false => rw [hc] at he; simp at he
          | true =>
            rw [hc] at he
            simp only [cond_true, Option.some.injEq] at he
            subst he
            simp only [Bool.and_eq_true] at hc
            obtain ⟨c1, c2, c3, c4, c5, c6⟩ := hc
            have hV := allVals_VRs (G := G) (w := w) (ρ := a.eval) hvs fun x hx u hu => hv x (by simpa [Op.operands] using hx) u hu
            obtain ⟨V, w', h1, h2, h3, h4⟩ := buildSlice_sim hT I ht hte hV c1 (beq_nat.1 c2) c3 (blt_nat.1 c4) (beq_nat.1 c5) (Nat.le_of_ble_eq_true c6)
            refine ⟨V, w', ?_, h2, h3, h4⟩
            have e : (parts.map fun (i, x) => (i, a.eval x)) = (parts.toList.map fun x => (x.1, a.eval x.2)).toArray := by apply Array.ext'; simp
            rw [e]
            simp only [Sem.run_bind, h1, Result.andThen_ok, Sem.run_pure]
        · simp at he
      · simp at he
    · simp at he
  case nilCheck x =>
    split at he
    · rename_i p hx
      simp only [Option.some.injEq] at he
      subst he
      have := hv x (by simp [Op.operands]) _ hx
      generalize a.eval x = z at *
      cases this
      exact same (.ptr _ _ _ (by assumption)) rfl
    · rename_i cs hx
      simp only [Option.some.injEq] at he
      subst he
      have := hv x (by simp [Op.operands]) _ hx
      generalize a.eval x = z at *
      cases this
      exact same (.vp _ _ _ _ (by assumption) (by assumption)) rfl
    · rename_i id n off hx
      simp only [Option.some.injEq] at he
      subst he
      have := hv x (by simp [Op.operands]) _ hx
      generalize a.eval x = z at *
      cases this
      exact same (.rp _ _ _ _ (by assumption)) rfl
    · rename_i f c d hx
      simp only [Option.some.injEq] at he
      subst he
      have := hv x (by simp [Op.operands]) _ hx
      generalize a.eval x = z at *
      have hz := this
      cases this
      exact same hz rfl
    · simp at he
  case binOp op t x y u =>
    split at he
    · rename_i p q hp hq
      cases hn : nilCmp x y p q with
      | true =>
        rw [hn] at he
        obtain ⟨V, h1, h2⟩ := evNil_sim hT (hv x (by simp [Op.operands]) _ hp) (hv y (by simp [Op.operands]) _ hq) hn he
        exact same h2 (lift h1)
      | false =>
        rw [hn] at he
        obtain ⟨V, h1, h2⟩ := evBin_sim hT (hv x (by simp [Op.operands]) _ hp) (hv y (by simp [Op.operands]) _ hq) he x y
        exact same h2 (lift h1)
    · simp at he
  case unOp op t x =>
    split at he
    · rename_i b hx
      simp only [Option.some.injEq] at he
      subst he
      have := hv x (by simp [Op.operands]) _ hx
      generalize a.eval x = z at *
      cases this
      exact same (.bool _) (by simp [Op.unary])
    · rename_i k q hx
      simp only [Option.some.injEq] at he
      subst he
      have := hv x (by simp [Op.operands]) _ hx
      generalize a.eval x = z at *
      cases this
      exact same (V := .int k (k.wrap (0 - q))) (by rw [wr_eq]; exact .int _ _) (by simp only [Op.unary, Op.intArith, Sem.run_bind, Sem.run_pure, Result.andThen_ok])
    · simp at he
  case convert s d x =>
    split at he
    · rename_i k1 s1 b1 z1 a1 f1 k2 s2 b2 z2 a2 f2 k3 q e1 e2 hx
      simp only [Option.some.injEq] at he
      subst he
      obtain ⟨_, d1, _, u1, kk1, _⟩ := tyOf_some (hT _ _ e1)
      obtain ⟨_, d2, _, u2, kk2, _⟩ := tyOf_some (hT _ _ e2)
      have := kind_int kk1
      subst this
      have := kind_int kk2
      subst this
      have := hv x (by simp [Op.operands]) _ hx
      generalize a.eval x = z at *
      cases this
      refine same (V := .int k2 (k2.wrap q)) (by rw [wr_eq]; exact .int _ _) (lift ?_)
      simp [convert, run_under u1, run_under u2, Conv.intToInt]
    · rename_i s1 b1 z1 a1 f1 s2 b2 z2 a2 f2 q e1 e2 hx
      simp only [Option.some.injEq] at he
      subst he
      obtain ⟨_, d1, _, u1, kk1, _⟩ := tyOf_some (hT _ _ e1)
      obtain ⟨_, d2, _, u2, kk2, _⟩ := tyOf_some (hT _ _ e2)
      have := kind_str kk1
      subst this
      have := kind_str kk2
      subst this
      have := hv x (by simp [Op.operands]) _ hx
      generalize a.eval x = z at *
      have hz := this
      cases this
      refine same hz (lift ?_)
      simp [convert, run_under u1, run_under u2]
    · rename_i s1 b1 z1 a1 f1 e s2 b2 z2 a2 f2 q e1 e2 hx
      split at he
      · rename_i s3 b3 z3 a3 f3 e3
        cases hle : Nat.ble q.length 140737488355328 with
        | false => rw [hle] at he; simp at he
        | true =>
        rw [hle] at he
        simp only [cond_true, Option.some.injEq] at he
        subst he
        obtain ⟨_, d1, _, u1, kk1, _⟩ := tyOf_some (hT _ _ e1)
        obtain ⟨_, d2, _, u2, kk2, _⟩ := tyOf_some (hT _ _ e2)
        obtain ⟨_, d3, _, u3, kk3, _⟩ := tyOf_some (hT _ _ e3)
        have := kind_slice kk2
        subst this
        have := kind_int kk3
        subst this
        have := hv x (by simp [Op.operands]) _ hx
        generalize a.eval x = z at *
        cases this
        rename_i S
        obtain ⟨V, w', g1, g2, g3, g4⟩ := strBytes_sim (P := P) I u1 u2 u3 S
        exact ⟨V, w', by simp only [Sem.run_bind, g1, Result.andThen_ok, Sem.run_pure], g2, g3, g4⟩
      · simp at he
    · rename_i e s1 b1 z1 a1 f1 s2 b2 z2 a2 f2 o els e1 e2 hx
      split at he
      · rename_i s3 b3 z3 a3 f3 e3
        obtain ⟨m, hm, rfl⟩ := Option.map_eq_some_iff.1 he
        obtain ⟨_, d1, _, u1, kk1, _⟩ := tyOf_some (hT _ _ e1)
        obtain ⟨_, d2, _, u2, kk2, _⟩ := tyOf_some (hT _ _ e2)
        obtain ⟨_, d3, _, u3, kk3, _⟩ := tyOf_some (hT _ _ e3)
        have := kind_slice kk1
        subst this
        have := kind_str kk2
        subst this
        have := kind_int kk3
        subst this
        have hV := hv x (by simp [Op.operands]) _ hx
        generalize a.eval x = z at *
        obtain ⟨S, g1, g2⟩ := bytesStr_sim (P := P) hV hm
        refine same (V := .string S) (by rw [← g2]; exact .str S) (lift ?_)
        have hz : ∃ A n c, z = .slice A n c := by cases hV <;> exact ⟨_, _, _, rfl⟩
        obtain ⟨A, n, c, rfl⟩ := hz
        cases A <;> simp [convert, run_under u1, run_under u2, run_under u3, g1]
      · simp at he
    · simp at he
  case makeInterface t x =>
    split at he
    · simp at he
    · rename_i i u hni ht hx
      simp only [Option.some.injEq] at he
      subst he
      obtain ⟨_, d1, _, u1, kk1, _⟩ := tyOf_some (hT _ _ ht)
      refine same (.iface t _ _ (hv x (by simp [Op.operands]) _ hx)) (lift ?_)
      unfold Instr.makeInterface
      simp only [Sem.run_bind, run_under u1, Result.andThen_ok]
      cases d1 <;> first
        | rfl
        | skip
      rename_i ms
      exfalso
      obtain ⟨kd, s1, b1, z1, a1, f1⟩ := i
      simp only [kindOf] at kk1
      subst kk1
      exact hni _ _ _ _ _ rfl
    · simp at he
  case makeFunc fn first captured =>
    split at he
    · rename_i f p q h1 h2
      simp only [Option.some.injEq] at he
      subst he
      have hp := allVals_VRs (G := G) (w := w) (ρ := a.eval) h1 fun x hx u hu => hv x (by simp [Op.operands] at hx ⊢; exact .inl hx) u hu
      have hq := allVals_VRs (G := G) (w := w) (ρ := a.eval) h2 fun x hx u hu => hv x (by simp [Op.operands] at hx ⊢; exact .inr hx) u hu
      refine same (V := .func (.func f) (first.map a.eval) (captured.map a.eval)) (.fn f _ _ p q (by have := hp.1; simpa using this) (by have := hq.1; simpa using this) (fun i u x hu hx => hp.2 i u x (by simpa using hu) hx) (fun i u x hu hx => hq.2 i u x (by simpa using hu) hx)) (lift rfl)
    · simp at he
  case fieldAddr s x f =>
    split at he
    · rename_i fs sz byt z ag ef ht
      split at he
      · rename_i off fsz fag hf
        obtain ⟨fields, fd, inf, d, u1, hfd, e1, e2, e3, e4, e5⟩ := field_some hT ht hf
        cases hz : Nat.beq fsz 0 with
        | true => rw [hz] at he; simp at he
        | false =>
          rw [hz] at he
          simp only [cond_false] at he
          have hnz : ¬ inf.size = 0 := by rw [e4]; intro e; rw [e] at hz; simp at hz
          have hrun : ∀ (b q : Nat), (Instr.fieldAt s (.pointer (some ⟨b, q, none⟩)) f).run P w = .ok (.pointer (some ⟨b, q + off, none⟩)) w := by
            intro b q
            unfold Instr.fieldAt
            simp only [Sem.run_bind, run_under u1, Result.andThen_ok, hfd, Instr.sureAddr, Sem.run_pure, fieldPlace, run_sizeOf e1, hnz, if_false, addr_add, e3]
          split at he
          · rename_i id q hx
            simp only [Option.some.injEq] at he
            subst he
            have := hv x (by simp [Op.operands]) _ hx
            generalize a.eval x = z at *
            cases this
            exact same (.ptr _ _ _ (by assumption)) (lift (hrun _ _))
          · rename_i cs hx
            simp only [Option.some.injEq] at he
            subst he
            have := hv x (by simp [Op.operands]) _ hx
            generalize a.eval x = z at *
            cases this
            rename_i b q g h1 h2
            refine same (V := .pointer (some ⟨b, q + off, none⟩)) (.vp b (q + off) (cs.drop off) (fun j => g (off + j)) (fun j hj => ?_) (fun j y hy => ?_)) (lift (hrun _ _))
            · have := h1 (off + j) (by simp at hj; omega)
              rw [Nat.add_assoc]
              exact this
            · rw [List.getElem?_drop] at hy
              exact h2 _ y hy
          · rename_i id n q hx
            simp only [Option.some.injEq] at he
            subst he
            have := hv x (by simp [Op.operands]) _ hx
            generalize a.eval x = z at *
            cases this
            exact same (.rp _ _ _ _ (by assumption)) (lift (hrun _ _))
          · simp at he
      · simp at he
    · simp at he
  case field t x f =>
    split at he
    · rename_i fs sz byt z ag ef cs ht hx
      split at he
      · rename_i off fsz fag hf
        obtain ⟨fields, fd, inf, d, u1, hfd, e1, e2, e3, e4, e5⟩ := field_some hT ht hf
        have := hv x (by simp [Op.operands]) _ hx
        generalize a.eval x = z at *
        cases this
        rename_i C hC h1
        obtain ⟨V, k1, k2⟩ := part_sim e1 e2 hC h1 (off := off) (v := v) (by rw [e5, e4]; exact he)
        refine same k2 (lift ?_)
        unfold Instr.field
        simp only [Sem.run_bind, run_under u1, Result.andThen_ok, hfd, asAgg, Sem.run_pure, e3, k1]
      · simp at he
    · simp at he
  case indexAddr t x i =>
    split at he
    · rename_i e sz byt z ag ef ht
      split at he
      · rename_i ie o' els ki n hte hx hi
        split at he
        · rename_i u hu
          cases hc : Nat.beq u.cells.length ie.sz with
          | false => rw [hc] at he; simp at he
          | true =>
            rw [hc] at he
            simp only [cond_true, Option.some.injEq] at he
            subst he
            have hsz := beq_nat.1 hc
            obtain ⟨_, d1, _, u1, kk1, _⟩ := tyOf_some (hT _ _ ht)
            have := kind_slice kk1
            subst this
            obtain ⟨inf, d2, g1, g2, _, g3, _⟩ := tyOf_some (hT _ _ hte)
            have hX := hv x (by simp [Op.operands]) _ hx
            have hI := hv i (by simp [Op.operands]) _ hi
            generalize a.eval x = z1 at *
            generalize a.eval i = z2 at *
            cases hI
            cases hX with
            | sl0 => simp at hu
            | sl b off len cap s _ _ f hl hcap hs h1 h2 ho2 =>
              have hn : n < len := by rw [← hl]; exact getElem?_lt hu
              have hus := hs u (List.mem_of_getElem? hu)
              refine same (V := .pointer (some ⟨b, off + n * s, none⟩)) (.vp b (off + n * s) u.cells (f n) (fun j hj => h1 n j hn (by omega)) (fun j y hy => h2 n j u y hu hy)) (lift ?_)
              unfold Instr.indexAt
              have hin : (0 : Int) ≤ Int.ofNat n ∧ (Int.ofNat n : Int) < ((len : Nat) : Int) := ⟨Int.natCast_nonneg _, by simp only [Int.ofNat_eq_natCast]; omega⟩
              simp only [Sem.run_bind, asIntOf, Sem.run_pure, Result.andThen_ok, run_under u1]
              rw [if_pos hin]
              have e3 : inf.size = s := by omega
              simp only [Sem.run_bind, run_sizeOf g1, Result.andThen_ok, Sem.run_pure, addr_add, e3]
              rfl
        · simp at he
      · rename_i ie id len own ki n hte hx hi
        cases hc : Nat.blt n len with
        | false => rw [hc] at he; simp at he
        | true =>
          rw [hc] at he
          simp only [cond_true, Option.some.injEq] at he
          subst he
          have hn := blt_nat.1 hc
          obtain ⟨_, d1, _, u1, kk1, _⟩ := tyOf_some (hT _ _ ht)
          have := kind_slice kk1
          subst this
          obtain ⟨inf, d2, g1, g2, _, g3, _⟩ := tyOf_some (hT _ _ hte)
          have hX := hv x (by simp [Op.operands]) _ hx
          have hI := hv i (by simp [Op.operands]) _ hi
          generalize a.eval x = z1 at *
          generalize a.eval i = z2 at *
          cases hI
          cases hX with
          | rs _ _ b cap _ hcap hr =>
            refine same (V := .pointer (some ⟨b, n * ie.sz, none⟩)) (.rp _ _ _ b (hr.imp fun _ _ => trivial)) (lift ?_)
            unfold Instr.indexAt
            have hin : (0 : Int) ≤ Int.ofNat n ∧ (Int.ofNat n : Int) < ((len : Nat) : Int) := ⟨Int.natCast_nonneg _, by simp only [Int.ofNat_eq_natCast]; omega⟩
            simp only [Sem.run_bind, asIntOf, Sem.run_pure, Result.andThen_ok, run_under u1]
            rw [if_pos hin]
            have e3 : inf.size = ie.sz := by omega
            simp only [Sem.run_bind, run_sizeOf g1, Result.andThen_ok, Sem.run_pure, addr_add, e3, Nat.zero_add]
            rfl
      · simp at he
    · simp at he
  case index t x i =>
    split at he
    · rename_i sz byt z ag ef ht
      split at he
      · rename_i s ki n hx hi
        split at he
        · rename_i b hb
          simp only [Option.some.injEq] at he
          subst he
          obtain ⟨_, d1, _, u1, kk1, _⟩ := tyOf_some (hT _ _ ht)
          have := kind_str kk1
          subst this
          have hX := hv x (by simp [Op.operands]) _ hx
          have hI := hv i (by simp [Op.operands]) _ hi
          generalize a.eval x = z1 at *
          generalize a.eval i = z2 at *
          cases hI
          cases hX
          rename_i s
          have hn := getElem?_lt hb
          rw [bytesOf_length] at hn
          have hbe : b = (s[n]'hn).toNat := by
            unfold bytesOf at hb
            rw [List.getElem?_map] at hb
            obtain ⟨u, hu, rfl⟩ := Option.map_eq_some_iff.1 hb
            have : s.data.toList[n]? = some s[n] := by
              rw [List.getElem?_eq_getElem (by simpa using hn)]
              rfl
            rw [this] at hu
            simp only [Option.some.injEq] at hu
            rw [hu]
          refine same (V := .int .u8 (Int.ofNat b)) (.int _ _) (lift ?_)
          rw [run_index_string w t s ki (Int.ofNat n) u1, dif_pos ⟨Int.natCast_nonneg _, by simp only [Int.ofNat_eq_natCast]; omega⟩, hbe]
          rfl
        · simp at he
      · simp at he
    · simp at he
  case extract x i =>
    split at he
    · rename_i vs hx
      have hX := hv x (by simp [Op.operands]) _ hx
      generalize a.eval x = z1 at *
      cases hX
      rename_i C hC h1
      have hl := getElem?_lt he
      rw [← hC] at hl
      refine same (V := C[i]) (h1 i _ v (Array.getElem?_eq_getElem hl) he) (lift ?_)
      unfold Instr.extract
      simp [Array.getElem?_eq_getElem hl]
    · simp at he
  case slice t x lo hi mx =>
    split at he
    · rename_i i u l0 h0 m0 ht hx hl hh hm
      obtain ⟨inf, d1, _, u1, kk1, _⟩ := tyOf_some (hT _ _ ht)
      have hX := hv x (by simp [Op.operands]) _ hx
      split at he
      · rename_i s l hq m k1 e3 e4 e5
        rw [k1] at kk1
        have := kind_str kk1
        subst this
        have q1 := natOf_VR hl e3 fun y hy u hu => hv y (by simp [Op.operands] at hy ⊢; simp [hy]) u hu
        have q2 := natOf_VR hh e4 fun y hy u hu => hv y (by simp [Op.operands] at hy ⊢; simp [hy]) u hu
        have q3 := natOf_VR hm e5 fun y hy u hu => hv y (by simp [Op.operands] at hy ⊢; simp [hy]) u hu
        have hX2 := hX
        generalize hz1 : a.eval x = z1 at hX2
        cases hX2
        rename_i s'
        cases m with
        | some m => simp [evSlice] at he
        | none =>
          obtain ⟨V, k1, k2⟩ := slice_str_sim (P := P) (G := G) (w := w) u1 he
          rw [← hz1]
          exact same k2 (lift (by rw [q1, q2, q3, hz1]; exact k1))
      · rename_i e o' els l hq m k1 e3 e4 e5
        rw [k1] at kk1
        have := kind_slice kk1
        subst this
        have q1 := natOf_VR hl e3 fun y hy u hu => hv y (by simp [Op.operands] at hy ⊢; simp [hy]) u hu
        have q2 := natOf_VR hh e4 fun y hy u hu => hv y (by simp [Op.operands] at hy ⊢; simp [hy]) u hu
        have q3 := natOf_VR hm e5 fun y hy u hu => hv y (by simp [Op.operands] at hy ⊢; simp [hy]) u hu
        split at he
        · rename_i ie hte
          obtain ⟨inf2, d2, g1, g2, _, g3, _⟩ := tyOf_some (hT _ _ hte)
          cases hc : sizesAre ie.sz els with
          | false => rw [hc] at he; simp at he
          | true =>
            rw [hc] at he
            simp only [cond_true] at he
            obtain ⟨V, k1, k2⟩ := slice_sl_sim u1 g1 hX (by rw [← g3]; exact hc) he
            exact same k2 (lift (by rw [q1, q2, q3]; exact k1))
        · simp at he
      · rename_i e id len own l hq m k1 e3 e4 e5
        rw [k1] at kk1
        have := kind_slice kk1
        subst this
        have q1 := natOf_VR hl e3 fun y hy u hu => hv y (by simp [Op.operands] at hy ⊢; simp [hy]) u hu
        have q2 := natOf_VR hh e4 fun y hy u hu => hv y (by simp [Op.operands] at hy ⊢; simp [hy]) u hu
        have q3 := natOf_VR hm e5 fun y hy u hu => hv y (by simp [Op.operands] at hy ⊢; simp [hy]) u hu
        cases hte : ty e with
        | none => rw [hte] at he; simp at he
        | some iee =>
        rw [hte] at he
        simp only at he
        obtain ⟨inf2, d2, g1, g2, _, g3, _⟩ := tyOf_some (hT _ _ hte)
        cases hc : (Nat.beq (l.getD 0) 0 && (Nat.beq (hq.getD len) len && (Nat.beq (m.getD len) len && (m.isNone || hq.isSome)))) with
        | false => rw [hc] at he; simp at he
        | true =>
          rw [hc] at he
          simp only [cond_true, Option.some.injEq] at he
          subst he
          simp only [Bool.and_eq_true, Bool.or_eq_true] at hc
          have hX2 := hX
          generalize hz1 : a.eval x = z1 at hX2
          cases hX2 with
          | rs _ _ b cap _ hcap hr =>
            obtain ⟨V, k1, k2⟩ := slice_rs_sim (P := P) (w := w) u1 g1 hcap hr (beq_nat.1 hc.1) (beq_nat.1 hc.2.1) (beq_nat.1 hc.2.2.1) hc.2.2.2
            rw [← hz1]
            exact same k2 (lift (by rw [q1, q2, q3, hz1]; exact k1))
      · simp at he
    · simp at he
end

end Go.Ev
