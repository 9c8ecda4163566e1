/- Each operation of the abstract machine is the model's: all. -/
import Derived.Test.YtncccgglillmoaaGreatDoorEvQa
set_option autoImplicit false
set_option linter.unusedSectionVars false
set_option linter.unusedVariables false
set_option linter.unusedSimpArgs false
namespace Go.Ev
variable [Inhabited KA0] [MT]

section
variable {P : Program} {G : Gh} {w : World} {h : H}

theorem new_sim {ty : Nat → Option TyI} (hT : TyOk P ty) : AllocOk P ty := by
  intro G w h tm a o obj vOf id I hk he hv hid hr hc hg
  have lift : ∀ {V : Value} {s : Sem Value} {w' : World}, s.run P w = .ok V w' → (do pure (Next.value (← s)) : Sem Next).run P w = .ok (.value V) w' := by
    intro V s w' hs
    simp only [Sem.run_bind, hs, Result.andThen_ok, Sem.run_pure]
  have cells : ∀ {V : Value} {x : AV}, VR G w V x → ∀ e, ObjR G w (some (.cells x.cells)) (some (.cells V.cells e)) := fun hV e => ⟨rfl, hV.cells⟩
  have ptr : ∀ p, VR (G.add id w.heap.size) (w.alloc p) (.pointer (some ⟨w.heap.size, 0, none⟩)) (.ptr (some (id, 0))) := fun p => .ptr id w.heap.size 0 (by simp [Gh.add])
  unfold execOp
  cases ho : o.op <;> rw [ho] at hk hv he <;> simp only [evNew, reduceCtorEq] at he <;> simp only []
  case alloc t =>
    split at he
    · rename_i k s b z ag ef ht
      simp only [Option.some.injEq, Prod.mk.injEq] at he
      obtain ⟨rfl, rfl⟩ := he
      obtain ⟨inf, Z, h1, h2, h3⟩ := zero_VR (G := G) (w := w) hT ht rfl
      refine ⟨_, .cells Z.cells t, _, lift ?_, add_R I id hid hr hc _ (by rw [hg]; exact cells h3 t), ptr _⟩
      simp only [Instr.alloc, Sem.run_bind, run_zero h1 h2, Result.andThen_ok, newVar, newRow, run_newObj, World.alloc_eq, Sem.run_pure]
    · simp at he
  case box t x =>
    split at he
    · rename_i u hu
      simp only [Option.some.injEq, Prod.mk.injEq] at he
      obtain ⟨rfl, rfl⟩ := he
      refine ⟨_, .cells (a.eval x).cells t, _, lift ?_, add_R I id hid hr hc _ (by rw [hg]; exact cells (hv x (by simp [Op.operands]) u hu) t), ptr _⟩
      simp only [Instr.box, Sem.run_bind, newVar, newRow, run_newObj, Result.andThen_ok, World.alloc_eq, Sem.run_pure]
    · simp at he
  case makeMap t r =>
    split at he
    · simp only [Option.some.injEq, Prod.mk.injEq] at he
      obtain ⟨rfl, rfl⟩ := he
      refine ⟨.map (some w.heap.size), .map #[] 0, _, lift ?_, add_R I id hid hr hc _ (by rw [hg]; exact ⟨rfl, fun i e k x h1 => by simp at h1⟩), .map id w.heap.size (by simp [Gh.add])⟩
      simp [Instr.makeMap]
    · simp at he
  case buildSlice t len parts =>
    split at he
    · rename_i e s1 b1 z1 a1 f1 ht
      split at he
      · rename_i k sz byt z ag ef hte
        split at he
        · rename_i vs hvs
          cases hc' : (denseFrom 0 parts.toList && (Nat.beq vs.length len && (sizesAre sz vs && (onesIn vs && (Nat.blt 0 sz && (Nat.beq z.cells.length sz && Nat.ble (len * sz) 16777216)))))) with
          | false => rw [hc'] at he; simp at he
          | true =>
            rw [hc'] at he
            simp only [cond_true, Option.some.injEq, Prod.mk.injEq] at he
            obtain ⟨rfl, rfl⟩ := he
            simp only [Bool.and_eq_true] at hc'
            obtain ⟨c1, c2, c3, _, c4, c5, c6⟩ := hc'
            have hV := allVals_VRs (G := G) (w := w) (ρ := a.eval) hvs fun x hx u hu => hv x (by simpa [Op.operands] using hx) u hu
            obtain ⟨C, h1, h2, h3⟩ := buildSlice_run hT I ht hte hV c1 (beq_nat.1 c2) c3 (blt_nat.1 c4) (beq_nat.1 c5) (Nat.le_of_ble_eq_true c6)
            have hlm : len ≤ maxLen := by
              have := Nat.le_of_ble_eq_true c6
              have := Nat.le_mul_of_pos_right len (blt_nat.1 c4)
              simp only [maxLen]; omega
            refine ⟨_, .cells C e, _, ?_, addRow_R I id hid hr hc hg (blt_nat.1 c4) (Nat.le_refl _) hlm h3 ?_, .rs id len w.heap.size len true (Nat.le_refl _) ⟨len, _, by simp [Gh.addRow], Nat.le_refl _, fun _ => ⟨len, rfl, fun _ => rfl⟩⟩⟩
            · have e : (parts.map fun (i, x) => (i, a.eval x)) = (parts.toList.map fun x => (x.1, a.eval x.2)).toArray := by apply Array.ext'; simp
              rw [e]
              simp only [Sem.run_bind, h1, Result.andThen_ok, Sem.run_pure]
            · rw [← h3, ← Array.length_toList, List.take_length]
              exact h2
        · simp at he
      · simp at he
    · simp at he

theorem onlyAt_set {b : Nat} {p : Go.Obj} (hb : b < w.heap.size) : OnlyAt w { w with heap := w.heap.setIfInBounds b p } b :=
  ⟨rfl, rfl, rfl, by simp, fun c hc => by simp [Array.getElem?_setIfInBounds_ne (fun e => hc e.symm)]⟩

theorem upd_sim {ty : Nat → Option TyI} (hT : TyOk P ty) (I : Inv G w h) {t : Nat} {m k x : Operand} {tm : Tm} {ρ : Operand → Value} (hm : ∀ u, val tm m = some u → VR G w (ρ m) u) (hk : ∀ u, val tm k = some u → VR G w (ρ k) u) (hx : ∀ u, val tm x = some u → VR G w (ρ x) u)
    {v : AV} {h' : H} (he : evUpd ty tm h t m k x = some (v, h')) : v = .tup [] ∧ ∃ w', (Instr.mapUpdate t (ρ m) (ρ k) (ρ x)).run P w = .ok () w' ∧ Inv G w' h' ∧ Ext G w h G w' h' := by
  unfold evUpd at he
  split at he
  · rename_i kt et s1 b1 z1 a1 f1 ht
    split at he
    · rename_i ik id key u hkt hmv hkv hxv
      split at he
      · rename_i es hes
        cases hko : keyOk ty ik.kind key with
        | false => rw [hko] at he; simp at he
        | true =>
          rw [hko] at he
          simp only [cond_true] at he
          obtain ⟨_, dm, _, um, kkm, _⟩ := tyOf_some (hT _ _ ht)
          have := kind_map kkm
          subst this
          obtain ⟨_, dk, _, uk, kkk, _⟩ := tyOf_some (hT _ _ hkt)
          have hKD : KindD P dk key := keyOk_spec (P := P) hT (by rw [← kkk]; exact hko)
          have hM := hm _ hmv
          have hK := hk _ hkv
          have hX := hx _ hxv
          generalize ρ m = M at *
          generalize ρ k = K at *
          generalize ρ x = X at *
          cases hM
          rename_i b hr
          obtain ⟨ents, clk, hb, hl, hR⟩ := I.mapAt hr hes
          have hE : EntR G w ents.toList es := ⟨by simpa using hl, fun i e k x h1 h2 => hR i e k x (by simpa using h1) h2⟩
          have hget : (getObj b).run P w = .ok (.map ents clk) w := by simp [getObj, Sem.run, hb]
          have hset : ∀ p : Go.Obj, (setObj b p).run P w = .ok () { w with heap := w.heap.setIfInBounds b p } := by
            intro p
            simp [setObj, Sem.run, hb]
          have hbl : b < w.heap.size := (Array.getElem?_eq_some_iff.1 hb).1
          cases hp : mapPut key u es with
          | none => rw [hp] at he; simp at he
          | some mm =>
            rw [hp] at he
            simp only [Option.some.injEq, Prod.mk.injEq] at he
            obtain ⟨rfl, rfl⟩ := he
            refine ⟨rfl, ?_⟩
            rcases findKey_put I uk hKD hK hX hE hp with ⟨h4, rfl⟩ | ⟨j, V', e, h4, h5, h6, h7, rfl⟩
            · refine ⟨_, ?_, put_inv I hr _ (onlyAt_set (p := .map (ents.push { key := K, val := X, born := clk }) (clk + 1)) hbl) ?_, put_ext I hr _ (onlyAt_set hbl)⟩
              · unfold Instr.mapUpdate
                simp only [Sem.run_bind, run_under um, Result.andThen_ok, hget, run_checkKey uk hK hKD, h4, Sem.run_pure, hset]
              · simp only [Array.getElem?_setIfInBounds_self_of_lt hbl]
                refine ⟨by simp [hl], fun i e k x h1 h2 => ?_⟩
                rw [Array.getElem?_push] at h1
                split at h1
                · rename_i hi
                  simp only [Option.some.injEq] at h1
                  subst h1
                  rw [hi, hl, List.getElem?_append_right (Nat.le_refl _)] at h2
                  simp at h2
                  obtain ⟨rfl, rfl⟩ := h2
                  exact ⟨hK, hX⟩
                · have hi := (Array.getElem?_eq_some_iff.1 h1).1
                  rw [List.getElem?_append_left (by rw [← hl]; exact hi)] at h2
                  exact hR i e k x h1 h2
            · have hje : ents[j]? = some e := by simpa using h5
              refine ⟨_, ?_, put_inv I hr _ (onlyAt_set (p := .map (ents.modify j fun e => { e with key := K, val := X }) clk) hbl) ?_, put_ext I hr _ (onlyAt_set hbl)⟩
              · unfold Instr.mapUpdate
                simp only [Sem.run_bind, run_under um, Result.andThen_ok, hget, run_checkKey uk hK hKD, h4, Sem.run_pure, hje, Option.map_some, Option.getD_some, Instr.keyThatStays, h6, if_true, hset]
              · simp only [Array.getElem?_setIfInBounds_self_of_lt hbl]
                refine ⟨by simp [hl], fun i e' k x h1 h2 => ?_⟩
                rw [Array.getElem?_modify] at h1
                by_cases hij : j = i
                · subst hij
                  rw [if_pos rfl, hje] at h1
                  simp only [Option.map_some, Option.some.injEq] at h1
                  subst h1
                  rw [List.getElem?_set_self (by exact h7)] at h2
                  simp only [Option.some.injEq, Prod.mk.injEq] at h2
                  obtain ⟨rfl, rfl⟩ := h2
                  exact ⟨hK, hX⟩
                · rw [if_neg hij] at h1
                  rw [List.getElem?_set_ne hij] at h2
                  exact hR i e' k x h1 h2
      · simp at he
    · simp at he
  · simp at he

theorem act_sim {ty : Nat → Option TyI} (hT : TyOk P ty) {call : CallF} (hC : CallOk P call) : ActOk P ty call := by
  intro G w h tm a o v h' I hv he K Q hK
  have value : ∀ {V : Value} {G' : Gh} {w' : World}, (execOp a.eval o).run P w = .ok (.value V) w' → Inv G' w' h' → Ext G w h G' w' h' → VR G' w' V v → o.wp P a w K Q := by
    intro V G' w' h1 h2 h3 h4
    unfold Oper.wp
    rw [h1]
    exact hK G' w' V h2 h3 h4
  have skip : ∀ {w' : World}, v = .tup [] → (execOp a.eval o).run P w = .ok .skip w' → Inv G w' h' → Ext G w h G w' h' → o.wp P a w K Q := by
    intro w' hvt h1 h2 h3
    unfold Oper.wp
    rw [h1]
    exact hK G w' undef h2 h3 (by rw [hvt]; exact undef_VR _ _)
  unfold evAct at he
  split at he
  · rename_i f args ats ho
    rw [ho] at hv
    split at he
    · rename_i g first cap vs hf hvs
      have hF := hv f (by simp [Op.operands, Call.operands]) _ hf
      have hA := allVals_VRs (G := G) (w := w) (ρ := a.eval) hvs fun x hx u hu => hv x (by simp [Op.operands, Call.operands] at hx ⊢; exact .inr hx) u hu
      obtain ⟨⟨fn, q1, q2, q3⟩, q4⟩ := hC _ _ _ _ _ he
      generalize hz : a.eval f = z at *
      cases hF
      rename_i A B hA1 hA2 hB1 hB2
      have hargs : VRs G w (A ++ args.map a.eval ++ B).toList (first ++ vs ++ cap) := by
        have r1 : VRs G w A.toList first := ⟨by simpa using hA1, fun i u x hu hx => hA2 i u x (by simpa using hu) hx⟩
        have r2 : VRs G w B.toList cap := ⟨by simpa using hB1, fun i u x hu hx => hB2 i u x (by simpa using hu) hx⟩
        have r3 : VRs G w (args.map a.eval).toList vs := by simpa using hA
        simpa using (r1.append r3).append r2
      have hcall := q4 G w _ I hargs
      unfold Oper.wp execOp
      simp only [ho, resolve, hz, Deferred.ofValue, Sem.run_bind, Sem.run_pure, Result.andThen_ok, invoke, callFunc, run_program, q1, q2, q3, Bool.false_eq_true, if_false]
      refine Calls.mono hcall fun e w' hp => ?_
      obtain ⟨G', V, rfl, h1, h2, h3⟩ := hp
      exact hK G' w' V h2 h3 h1
    · simp at he
  · unfold evOp at he
    cases hk : opKind o.op with
    | pure =>
      rw [hk] at he
      simp only at he
      cases hp : evPure ty tm o.op with
      | none => rw [hp] at he; simp at he
      | some u =>
        rw [hp] at he
        simp only [Option.some.injEq, Prod.mk.injEq] at he
        obtain ⟨rfl, rfl⟩ := he
        obtain ⟨V, w', h1, h2, h3, h4⟩ := pure_sim hT I hk hv hp
        exact value h1 h2 h3 h4
    | read =>
      rw [hk] at he
      simp only at he
      cases hp : evRead ty tm h o.op with
      | none => rw [hp] at he; simp at he
      | some u =>
        rw [hp] at he
        simp only [Option.some.injEq, Prod.mk.injEq] at he
        obtain ⟨rfl, rfl⟩ := he
        obtain ⟨V, h1, h2⟩ := read_sim hT I hv hp
        exact value h1 I (Ext.refl G w _) h2
    | new =>
      rw [hk] at he
      simp only at he
      cases hp : evNew ty tm o.op with
      | none => rw [hp] at he; simp at he
      | some q =>
        obtain ⟨ob, f⟩ := q
        rw [hp] at he
        simp only [Option.some.injEq, Prod.mk.injEq] at he
        obtain ⟨rfl, rfl⟩ := he
        obtain ⟨f1, f2, f3⟩ := I.fresh
        obtain ⟨V, p, G', h1, h2, h3⟩ := new_sim hT G w (h.new ob) tm a o ob f h.nx (new_inv I ob) hk hp hv (Nat.lt_succ_self _) f1 f2 (T.get_set _ _ _)
        exact value h1 h2.inv (h2.ext h (by show h.nx ≤ h.nx + 1; omega) (fun j hj _ _ => by omega) (fun j hj => T.get_set_ne _ _ (by omega))) h3
    | write =>
      rw [hk] at he
      simp only at he
      unfold execOp at value skip
      cases ho : o.op <;> rw [ho] at hk hv he <;> simp only [evWrite, reduceCtorEq] at he <;> simp only [ho] at value skip
      case store t x y =>
        split at he
        · rename_i i id off u hti hx hy
          split at he
          · rename_i cs hcs
            cases hc : (Nat.beq u.cells.length i.sz && (Nat.ble (off + i.sz) cs.length && allOne u.cells)) with
            | false => rw [hc] at he; simp at he
            | true =>
              rw [hc] at he
              simp only [cond_true, Option.some.injEq, Prod.mk.injEq] at he
              obtain ⟨rfl, rfl⟩ := he
              simp only [Bool.and_eq_true] at hc
              obtain ⟨inf, d, h1, h2, _, h3, _⟩ := tyOf_some (hT _ _ hti)
              have hX := hv x (by simp [Op.operands]) _ hx
              have hY := hv y (by simp [Op.operands]) _ hy
              generalize a.eval x = X at *
              generalize a.eval y = Y at *
              cases hX
              rename_i b hr
              obtain ⟨w', k1, k2, k3⟩ := store_sim I h1 hr hcs hY (by rw [beq_nat.1 hc.1, h3]) (by rw [← h3]; exact Nat.le_of_ble_eq_true hc.2.1) hc.2.2
              exact skip rfl (by simp only [Sem.run_bind, k1, Result.andThen_ok, Sem.run_pure]) k2 k3
          · simp at he
        · rename_i i id len off u hti hx hy
          split at he
          · rename_i n e s cs hcs
            cases hc : (Nat.beq n len && (Nat.beq u.cells.length i.sz && (Nat.ble (off + i.sz) cs.length && allOne u.cells))) with
            | false => rw [hc] at he; simp at he
            | true =>
              rw [hc] at he
              simp only [cond_true, Option.some.injEq, Prod.mk.injEq] at he
              obtain ⟨rfl, rfl⟩ := he
              simp only [Bool.and_eq_true] at hc
              have := beq_nat.1 hc.1
              subst this
              obtain ⟨inf, d, h1, h2, _, h3, _⟩ := tyOf_some (hT _ _ hti)
              have hX := hv x (by simp [Op.operands]) _ hx
              have hY := hv y (by simp [Op.operands]) _ hy
              generalize a.eval x = X at *
              generalize a.eval y = Y at *
              cases hX
              rename_i b hr
              obtain ⟨w', k1, k2, k3⟩ := store_row I h1 hr hcs hY (by rw [beq_nat.1 hc.2.1, h3]) (by rw [← h3]; exact Nat.le_of_ble_eq_true hc.2.2.1) hc.2.2.2
              exact skip rfl (by simp only [Sem.run_bind, k1, Result.andThen_ok, Sem.run_pure]) k2 k3
          · simp at he
        · simp at he
      case mapUpdate t m k x =>
        obtain ⟨rfl, w', k1, k2, k3⟩ := upd_sim hT I (hv m (by simp [Op.operands])) (hv k (by simp [Op.operands])) (hv x (by simp [Op.operands])) he
        exact skip rfl (by simp only [Sem.run_bind, k1, Result.andThen_ok, Sem.run_pure]) k2 k3
      case insert t m k x =>
        obtain ⟨rfl, w', k1, k2, k3⟩ := upd_sim hT I (hv m (by simp [Op.operands])) (hv k (by simp [Op.operands])) (hv x (by simp [Op.operands])) he
        exact skip rfl (by simp only [Sem.run_bind, k1, Result.andThen_ok, Sem.run_pure]) k2 k3
      case call c =>
        obtain ⟨cal, args, ats⟩ := c
        simp only at he
        split at he
        · split at he
          · rename_i t u x y hat hvs
            have hA := allVals_VRs (G := G) (w := w) (ρ := a.eval) hvs fun y hy u hu => hv y (by simp [Op.operands, Call.operands] at hy ⊢; exact hy) u hu
            obtain ⟨X, A', hA1, hX, hA2⟩ := hA.uncons
            obtain ⟨Y, A'', hA3, hY, hA4⟩ := hA2.uncons
            have hA5 : A'' = [] := List.eq_nil_of_length_eq_zero (by rw [hA4.1]; rfl)
            subst hA5
            subst hA3
            have hargs : args.map a.eval = #[X, Y] := by
              apply Array.ext'
              simpa using hA1
            have hats : ats = #[t, u] := by apply Array.ext'; simpa using hat
            subst hats
            split at he
            · rename_i e s1 b1 z1 a1 f1 e' s2 b2 z2 a2 f2 ht hu
              split at he
              · rename_i kd sz byt z ag ef hte
                cases hzl : Nat.beq z.cells.length sz with
                | false => rw [hzl] at he; simp at he
                | true =>
                  rw [hzl] at he
                  simp only [cond_true] at he
                  have fin : ∀ {V : Value} {G' : Gh} {w' : World}, (Builtin.append_ #[t, u] o.type #[X, Y]).run P w = .ok V w' → Inv G' w' h' → Ext G w h G' w' h' → VR G' w' V v → o.wp P a w K Q := fun k1 k2 k3 k4 => by
                    refine value ?_ k2 k3 k4
                    simp only [resolve, Sem.run_bind, Sem.run_pure, Result.andThen_ok, invoke, builtin, hargs, k1]
                  cases hmt : MT.mt t with
                  | true =>
                    rw [hmt] at he
                    simp only [cond_true] at he
                    obtain ⟨V, G', w', k1, k2, k3, k4⟩ := appR_sim hT I ht hu hte (beq_nat.1 hzl) hX hY he o.type
                    exact fin k1 k2 k3 k4
                  | false =>
                    rw [hmt] at he
                    simp only [cond_false] at he
                    split at he
                    · rename_i oy ys
                      obtain ⟨V, G', w', k1, k2, k3, k4⟩ := append_sim hT I ht hu hte (beq_nat.1 hzl) hX hY he o.type
                      exact fin k1 k2 k3 k4
                    · simp at he
              · simp at he
            · rename_i e s1 b1 z1 a1 f1 s2 b2 z2 a2 f2 ht hu
              split at he
              · rename_i kd sz byt z ag ef hte
                cases hzl : (Nat.beq z.cells.length sz && (Nat.beq sz 1 && !MT.mt t)) with
                | false => rw [hzl] at he; simp at he
                | true =>
                  rw [hzl] at he
                  simp only [cond_true] at he
                  simp only [Bool.and_eq_true] at hzl
                  split at he
                  · rename_i ys
                    obtain ⟨V, G', w', k1, k2, k3, k4⟩ := append_str_sim hT I ht hu hte (beq_nat.1 hzl.1) (beq_nat.1 hzl.2.1) hX hY he o.type
                    refine value ?_ k2 k3 k4
                    simp only [resolve, Sem.run_bind, Sem.run_pure, Result.andThen_ok, invoke, builtin, hargs, k1]
                  · simp at he
              · simp at he
            · simp at he
          · simp at he
        · simp at he
end

end Go.Ev
