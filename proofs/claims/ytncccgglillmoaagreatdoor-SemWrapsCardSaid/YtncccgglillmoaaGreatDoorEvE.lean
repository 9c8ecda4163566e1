/- Each operation of the abstract machine is the model's: loads, stores, parts. -/
import Derived.Test.YtncccgglillmoaaGreatDoorEvD
set_option autoImplicit false
set_option linter.unusedSectionVars false
set_option linter.unusedVariables false
set_option linter.unusedSimpArgs false
namespace Go.Ev
variable [Inhabited KA0] [MT]

section
variable {P : Program} {G : Gh} {w : World} {h : H}

theorem run_isAgg {t : Nat} {d : TypeDesc} (h : P.underlying t = some d) : (isAgg t).run P w = .ok (isAggD d) w := by
  unfold isAgg underlying
  simp only [Sem.run_bind, run_program, Result.andThen_ok, h, Sem.run_pure]
  cases d <;> rfl
theorem run_under {t : Nat} {d : TypeDesc} (h : P.underlying t = some d) : (underlying t).run P w = .ok d w := by
  unfold underlying
  simp only [Sem.run_bind, run_program, Result.andThen_ok, h, Sem.run_pure]
theorem run_info {t : Nat} {d : TypeInfo} (h : P.info? t = some d) : (typeInfo t).run P w = .ok d w := by
  unfold typeInfo
  simp only [Sem.run_bind, run_program, Result.andThen_ok, h, Sem.run_pure]
theorem run_sizeOf {t : Nat} {d : TypeInfo} (h : P.info? t = some d) : (sizeOf t).run P w = .ok d.size w := by
  unfold sizeOf
  simp only [Sem.run_bind, run_info h, Result.andThen_ok, Sem.run_pure]
theorem run_zero {t : Nat} {d : TypeInfo} {z : Value} (h : P.info? t = some d) (hz : d.zero = some z) : (zeroValue t).run P w = .ok z w := by
  unfold zeroValue
  simp only [Sem.run_bind, run_info h, Result.andThen_ok, hz, Sem.run_pure]

theorem addr_add (b o j : Nat) : (⟨b, o, none⟩ : Addr).add j = ⟨b, o + j, none⟩ := by
  unfold Addr.add
  split
  · rename_i h; subst h; rfl
  · rfl

theorem readAt_drop {ag : Bool} {sz : Nat} {cs : List AV} {off : Nat} {v : AV} (h : readAt ag sz cs off = some v) : readAt ag sz (cs.drop off) 0 = some v := by
  unfold readAt at *
  cases ag with
  | true =>
    simp only [cond_true] at h ⊢
    cases hb : Nat.ble (off + sz) cs.length with
    | true =>
      rw [hb] at h
      have hle : off + sz ≤ cs.length := Nat.le_of_ble_eq_true hb
      have : Nat.ble (0 + sz) (cs.drop off).length = true := Nat.ble_eq_true_of_le (by rw [List.length_drop]; omega)
      rw [this]
      simpa using h
    | false => rw [hb] at h; simp at h
  | false =>
    simp only [cond_false] at h ⊢
    rw [List.getElem?_drop]
    simpa using h

theorem getElem?_lt' {α : Type} {l : List α} {i : Nat} {x : α} (h : l[i]? = some x) : i < l.length := (List.getElem?_eq_some_iff.1 h).1

/-- A load where the cells are known. -/
theorem load_sim {t : Nat} {inf : TypeInfo} {d : TypeDesc} (hi : P.info? t = some inf) (hd : P.underlying t = some d) (b off : Nat) (cs : List AV) (f : Nat → Value)
    (h1 : ∀ j, j < cs.length → w.cell? ⟨b, off + j, none⟩ = some (f j)) (h2 : ∀ j x, cs[j]? = some x → VR G w (f j) x) {v : AV} (hv : readAt (isAggD d) inf.size cs 0 = some v) :
    ∃ V, (Instr.loadAt t (.pointer (some ⟨b, off, none⟩))).run P w = .ok V w ∧ VR G w V v := by
  unfold Instr.loadAt Instr.sureAddr loadVar
  simp only [Sem.run_bind, Sem.run_pure, Result.andThen_ok, run_isAgg hd]
  unfold readAt at hv
  cases ha : isAggD d with
  | true =>
    rw [ha] at hv
    simp only [cond_true, Nat.zero_add, List.drop_zero] at hv
    cases hb : Nat.ble inf.size cs.length with
    | false => rw [hb] at hv; simp at hv
    | true =>
      rw [hb] at hv
      have hle : inf.size ≤ cs.length := Nat.le_of_ble_eq_true hb
      simp only [cond_true, Option.some.injEq] at hv
      subst hv
      refine ⟨.agg ((List.range inf.size).map f).toArray, ?_, ?_⟩
      · have := run_loadCells (P := P) (w := w) ⟨b, off, none⟩ inf.size f (fun j hj => by rw [addr_add]; exact h1 j (by omega))
        simp only [if_true, Sem.run_bind, run_sizeOf hi, Result.andThen_ok, this, Sem.run_pure]
      · refine .agg _ _ (by simp [Nat.min_eq_left hle]) (fun i u x hu hx => ?_)
        have hu2 : ((List.range inf.size).map f)[i]? = some u := by simpa using hu
        have hi' : i < inf.size := by have := getElem?_lt' hu2; simpa using this
        rw [List.getElem?_map, List.getElem?_range hi'] at hu2
        simp only [Option.map_some, Option.some.injEq] at hu2
        subst hu2
        rw [List.getElem?_take_of_lt hi'] at hx
        exact h2 i x hx
  | false =>
    rw [ha] at hv
    simp only [cond_false] at hv
    have hl : 0 < cs.length := by
      cases cs with
      | nil => simp at hv
      | cons => simp
    refine ⟨f 0, ?_, h2 0 v hv⟩
    have := h1 0 hl
    simp only [Nat.add_zero] at this
    simp [this]

theorem getElem?_lt {α : Type} {l : List α} {i : Nat} {x : α} (h : l[i]? = some x) : i < l.length := (List.getElem?_eq_some_iff.1 h).1

/-- The cells of an object, as the abstract heap has them. -/
theorem Inv.cells (I : Inv G w h) {id b : Nat} {cs : List AV} (hr : G.ρ id = some b) (ho : h.t.get id = some (.cells cs)) :
    ∃ c e, w.heap[b]? = some (.cells c e (0, 0)) ∧ VRs G w c.toList cs := by
  obtain ⟨_, _, _, h4⟩ := I.obj id b hr
  rw [ho] at h4
  match hb : w.heap[b]?, h4 with
  | some (.cells c e fz), h4 =>
    obtain ⟨h5, h6⟩ := h4
    subst h5
    exact ⟨c, e, rfl, h6⟩
theorem Inv.mapAt (I : Inv G w h) {id b : Nat} {es : List (AV × AV)} (hr : G.ρ id = some b) (ho : h.t.get id = some (.map es)) :
    ∃ ents clk, w.heap[b]? = some (.map ents clk) ∧ ents.size = es.length ∧ ∀ (i : Nat) e k x, ents[i]? = some e → es[i]? = some (k, x) → VR G w e.key k ∧ VR G w e.val x := by
  obtain ⟨_, _, _, h4⟩ := I.obj id b hr
  rw [ho] at h4
  match hb : w.heap[b]?, h4 with
  | some (.map ents clk), h4 => exact ⟨ents, clk, rfl, h4⟩

theorem cell_at {c : Array Value} {e : Nat} {fz : Nat × Nat} {b : Nat} (hb : w.heap[b]? = some (.cells c e fz)) (o : Nat) : w.cell? ⟨b, o, none⟩ = c[o]? := by
  simp [World.cell?, hb]

theorem load_ptr (I : Inv G w h) {t : Nat} {inf : TypeInfo} {d : TypeDesc} (hi : P.info? t = some inf) (hd : P.underlying t = some d) {id b off : Nat} {cs : List AV}
    (hr : G.ρ id = some b) (ho : h.t.get id = some (.cells cs)) {v : AV} (hv : readAt (isAggD d) inf.size cs off = some v) :
    ∃ V, (Instr.loadAt t (.pointer (some ⟨b, off, none⟩))).run P w = .ok V w ∧ VR G w V v := by
  obtain ⟨c, e, hb, hc⟩ := I.cells hr ho
  refine load_sim hi hd b off (cs.drop off) (fun j => c.getD (off + j) undef) (fun j hj => ?_) (fun j x hx => ?_) (readAt_drop hv)
  · rw [cell_at hb]
    have : off + j < c.size := by have := hc.1; simp at this hj; omega
    simp [this]
  · rw [List.getElem?_drop] at hx
    have hl := getElem?_lt hx
    have : off + j < c.size := by have := hc.1; simp at this; omega
    exact hc.2 (off + j) _ x (by simp [this]) hx

/-! ### Stores -/
theorem fillAt_length : ∀ (cs : List AV) (o : Nat) (vs : List AV), o + vs.length ≤ cs.length → (fillAt cs o vs).length = cs.length
  | cs, 0, [], _ => by cases cs <;> rfl
  | [], o + 1, vs, h => by simp at h
  | [], 0, _ :: _, h => by simp at h
  | _ :: l, 0, v :: vs, h => by simp only [fillAt, List.length_cons]; rw [fillAt_length l 0 vs (by simp at h ⊢; omega)]
  | c :: l, o + 1, vs, h => by simp only [fillAt, List.length_cons]; rw [fillAt_length l o vs (by simp at h; omega)]
theorem fillAt_eq : ∀ (cs : List AV) (o : Nat) (vs : List AV), o + vs.length ≤ cs.length → fillAt cs o vs = cs.take o ++ vs ++ cs.drop (o + vs.length)
  | cs, 0, [], _ => by cases cs <;> simp [fillAt]
  | [], o + 1, vs, h => by simp at h
  | [], 0, _ :: _, h => by simp at h
  | _ :: l, 0, v :: vs, h => by simp only [fillAt]; rw [fillAt_eq l 0 vs (by simp at h ⊢; omega)]; simp
  | c :: l, o + 1, vs, h => by
    simp only [fillAt]; rw [fillAt_eq l o vs (by simp at h; omega)]
    simp [Nat.add_right_comm]
theorem VRs.take {a : List Value} {c : List AV} (r : VRs G w a c) (n : Nat) : VRs G w (a.take n) (c.take n) := by
  refine ⟨by simp [r.1], fun i u x hu hx => ?_⟩
  rw [List.getElem?_take] at hu hx
  split at hu
  · rename_i hi; rw [if_pos hi] at hx; exact r.2 i u x hu hx
  · cases hu
theorem VRs.drop {a : List Value} {c : List AV} (r : VRs G w a c) (n : Nat) : VRs G w (a.drop n) (c.drop n) := by
  refine ⟨by simp [r.1], fun i u x hu hx => ?_⟩
  rw [List.getElem?_drop] at hu hx
  exact r.2 _ u x hu hx

/-- Only one block is written. -/
structure OnlyAt (w w' : World) (b : Nat) : Prop where
  os : w'.os = w.os
  tape : w'.tape = w.tape
  output : w'.output = w.output
  size : w'.heap.size = w.heap.size
  other : ∀ c, c ≠ b → w'.heap[c]? = w.heap[c]?

/-- An object is written anew where it lies: what else there is stays. -/
theorem put_ext' (I : Inv G w h) {id b : Nat} (h0 : G.fr b = some 0) (hw : G.ow b = some id) (hm : ¬ (G.ρ id = none ∧ G.cv id = none)) (o : Obj) {w' : World} (W : OnlyAt w w' b) : Ext G w h G w' (h.put id o) where
  os := W.os
  tape := W.tape
  output := W.output
  size := Nat.le_of_eq W.size.symm
  base := rfl
  still := fun c hc hf => by
    have hne : c ≠ b := by rintro rfl; rw [h0] at hf; cases hf
    exact ⟨W.other c hne, hf⟩
  part := fun c k q v hf ho hv => by
    have hne : c ≠ b := by
      rintro rfl
      rw [h0] at hf
      simp only [Option.some.injEq] at hf
      omega
    exact ⟨(World.cell?_of_block (w := w) (a := ⟨c, q, none⟩) (W.other c hne)).trans hv, .inr ⟨k, hf, ho⟩⟩
  ρ := fun _ _ h => h
  cv := fun _ n v h => ⟨n, v, h, Nat.le_refl _, fun _ => rfl⟩
  nx := Nat.le_refl _
  unm := fun j _ a b' => by
    have hne : j ≠ id := by rintro rfl; exact hm ⟨a, b'⟩
    exact ⟨T.get_set_ne _ _ hne, a, b'⟩
  own := fun c hc ho => by
    have hne : c ≠ b := by rintro rfl; rw [hw] at ho; cases ho
    exact ⟨W.other c hne, rfl, ho⟩
theorem put_ext (I : Inv G w h) {id b : Nat} (hr : G.ρ id = some b) (o : Obj) {w' : World} (W : OnlyAt w w' b) : Ext G w h G w' (h.put id o) :=
  put_ext' I (I.obj id b hr).2.1 (I.obj id b hr).2.2.1 (by rintro ⟨e, _⟩; rw [hr] at e; cases e) o W
theorem put_inv (I : Inv G w h) {id b : Nat} (hr : G.ρ id = some b) (o : Obj) {w' : World} (W : OnlyAt w w' b) (ho : ObjR G w (some o) w'.heap[b]?) : Inv G w' (h.put id o) := by
  have E := put_ext I hr o W
  obtain ⟨hi, hf, hw, _⟩ := I.obj id b hr
  refine ⟨fun j q hq => ?_, fun c k hc => by have := I.frb c k hc; exact ⟨this.1, by rw [W.size]; exact this.2⟩, by rw [W.size]; exact I.bas, fun j c hj => ?_, fun j n v hc => ?_, I.ka.mono E⟩
  · by_cases e : j = id
    · subst e; exact hi
    · exact I.wf j q (by rw [← hq]; exact (T.get_set_ne _ _ e).symm)
  · obtain ⟨h1, h2, h3, h4⟩ := I.obj j c hj
    refine ⟨h1, h2, h3, ?_⟩
    by_cases e : j = id
    · subst e
      rw [hr] at hj
      simp only [Option.some.injEq] at hj
      subst hj
      have : (h.put j o).t.get j = some o := T.get_set _ _ _
      rw [this]
      exact ho.mono E
    · have hne : c ≠ b := by
        rintro rfl
        rw [hw] at h3
        simp only [Option.some.injEq] at h3
        exact e h3.symm
      have : (h.put id o).t.get j = h.t.get j := T.get_set_ne _ _ e
      rw [this, W.other c hne]
      exact h4.mono E
  · obtain ⟨h1, g, e, size, xs, cap, k, h2, h3, h4, h5, h6, h7⟩ := I.chn j n v hc
    have hne : g ≠ b := by
      rintro rfl
      rw [hw] at h6
      simp only [Option.some.injEq] at h6
      subst h6
      exact h2.no_obj (I.obj id g hr).2.2.2
    have hj : j ≠ id := by
      rintro rfl
      exact h2.no_obj (I.obj j b hr).2.2.2
    refine ⟨h1, g, e, size, xs, cap, k, by rw [show (h.put id o).t.get j = h.t.get j from T.get_set_ne _ _ hj]; exact h2.mono E, h3, ?_, h5, h6, h7⟩
    refine h4.kept (row := some b) ⟨W.os, W.tape, W.output, Nat.le_of_eq W.size.symm, fun k _ hk => W.other k (fun e => hk (by rw [e]))⟩ (.inr ?_)
    subst h3
    simp [Value.ownBlock, hne]

theorem onlyAt_setRow {b : Nat} {cur cs : Array Value} {e : Nat} {fz : Nat × Nat} (hb : w.heap[b]? = some (.cells cur e fz)) : OnlyAt w (w.setRow b cs) b :=
  ⟨rfl, rfl, rfl, by simp [World.setRow], fun c hc => setRow_other w b c cs (fun e => hc e)⟩

/-- A store into an object. -/
theorem store_sim (I : Inv G w h) {t : Nat} {inf : TypeInfo} (hi : P.info? t = some inf) {id b off : Nat} {cs : List AV} (hr : G.ρ id = some b) (ho : h.t.get id = some (.cells cs))
    {V : Value} {v : AV} (hv : VR G w V v) (hsz : v.cells.length = inf.size) (hfit : off + inf.size ≤ cs.length) (hone : allOne v.cells = true) :
    ∃ w', (Instr.storeAt t (.pointer (some ⟨b, off, none⟩)) V).run P w = .ok () w' ∧ Inv G w' (h.put id (.cells (fillAt cs off v.cells))) ∧ Ext G w h G w' (h.put id (.cells (fillAt cs off v.cells))) := by
  obtain ⟨c, e, hb, hc⟩ := I.cells hr ho
  have hcl := hc.1
  simp at hcl
  have hcv := hv.cells
  have hvl : V.cells.size = inf.size := by have := hcv.1; simp at this; omega
  have h1 : ∀ u ∈ V.cells.toList, u.oneCell' = true := by
    intro u hu
    obtain ⟨i, hi'⟩ := List.getElem?_of_mem hu
    have hil : i < v.cells.length := by rw [← hcv.1]; exact getElem?_lt hi'
    obtain ⟨x, hx⟩ : ∃ x, v.cells[i]? = some x := ⟨_, List.getElem?_eq_getElem hil⟩
    refine (hcv.2 i u x hi' hx).one ?_
    have : ∀ (l : List AV), allOne l = true → ∀ (i : Nat) x, l[i]? = some x → x.one = true := by
      intro l
      induction l with
      | nil => intro _ i x hx; simp at hx
      | cons a l ih =>
        intro hl i x hx
        simp only [allOne, Bool.and_eq_true] at hl
        cases i with
        | zero => simp at hx; subst hx; exact hl.1
        | succ i => simp at hx; exact ih hl.2 i x hx
    exact this _ hone i x hx
  have hst := run_storeCells_at P b off e V.cells.toList 0 c w hb (by simp; omega) h1
  simp only [Nat.add_zero] at hst
  have W : OnlyAt w (w.setRow b (c.toList.take off ++ V.cells.toList ++ c.toList.drop (off + V.cells.toList.length)).toArray) b := onlyAt_setRow hb
  refine ⟨_, ?_, put_inv I hr _ W ?_, put_ext I hr _ W⟩
  · unfold Instr.storeAt Instr.sureAddr storeVar
    simp only [Sem.run_bind, Sem.run_pure, Result.andThen_ok, run_sizeOf hi, hvl, ne_eq, not_true_eq_false, if_false, hst]
  · rw [setRow_heap w b c _ e _ hb]
    refine ⟨rfl, ?_⟩
    rw [fillAt_eq cs off v.cells (by omega)]
    have e1 : off + V.cells.toList.length = off + v.cells.length := by rw [hcv.1]
    rw [e1]
    exact ((hc.take off).append hcv).append (hc.drop _)

/-! ### Rows in the heap -/
theorem Inv.row (I : Inv G w h) {id len b : Nat} {p : Nat → Prop} (r : RowR G id len b p) {e s : Nat} {cs : List AV} (ho : h.t.get id = some (.row len e s cs)) :
    ∃ cur cap, w.heap[b]? = some (.cells cur e (0, 0)) ∧ G.cv id = some (len, .slice (some ⟨b, 0, none⟩) len cap) ∧ p cap ∧ G.base ≤ b ∧ len ≤ cap ∧ cap ≤ maxLen ∧ cur.size = cap * s ∧ VRs G w (cur.toList.take (len * s)) cs ∧
      G.fr b = some 0 ∧ G.ow b = some id ∧ 0 < s ∧ id < h.nx := by
  obtain ⟨n, v', h1, h2, h3⟩ := r
  obtain ⟨j1, g, e', s', xs, cap, k, j2, j3, j4, j5, j6, j7⟩ := I.chn id n v' h1
  rw [ho] at j2
  rcases j2 with ⟨j2, _⟩ | ⟨cs', j2, rfl, jv⟩
  · simp at j2
  · simp only [Option.some.injEq, Obj.row.injEq] at j2
    obtain ⟨rfl, rfl, rfl, rfl⟩ := j2
    obtain ⟨cap', e1, hp⟩ := h3 rfl
    rw [j3] at e1
    simp only [Value.slice.injEq, Option.some.injEq, Addr.mk.injEq, and_true, true_and] at e1
    obtain ⟨rfl, rfl⟩ := e1
    obtain ⟨jl, jr⟩ := j4
    rcases jr with ⟨jn, _⟩ | ⟨g0, cap0, cur, jv0, jb, jh, jc1, jc2, jc3, jt⟩
    · rw [j3] at jn; simp at jn
    · rw [j3] at jv0
      simp only [Value.slice.injEq, Option.some.injEq, Addr.mk.injEq, and_true, true_and] at jv0
      obtain ⟨rfl, rfl⟩ := jv0
      exact ⟨cur, cap, jh, by rw [h1, j3], hp, jb, jc1, jc2, jc3, by rw [jt]; exact jv, j5, j6, j7, j1⟩
theorem load_row (I : Inv G w h) {t : Nat} {inf : TypeInfo} {d : TypeDesc} (hi : P.info? t = some inf) (hd : P.underlying t = some d) {id len b off e s : Nat} {p : Nat → Prop} {cs : List AV}
    (r : RowR G id len b p) (ho : h.t.get id = some (.row len e s cs)) {v : AV} (hv : readAt (isAggD d) inf.size cs off = some v) :
    ∃ V, (Instr.loadAt t (.pointer (some ⟨b, off, none⟩))).run P w = .ok V w ∧ VR G w V v := by
  obtain ⟨cur, cap, hb, _, _, _, hle, _, hsz, hc, _⟩ := I.row r ho
  have hcl : cs.length ≤ cur.size := by have := hc.1; rw [List.length_take] at this; simp at this; omega
  refine load_sim hi hd b off (cs.drop off) (fun j => cur.getD (off + j) undef) (fun j hj => ?_) (fun j x hx => ?_) (readAt_drop hv)
  · rw [cell_at hb]
    have : off + j < cur.size := by simp at hj; omega
    simp [this]
  · rw [List.getElem?_drop] at hx
    have hl := getElem?_lt hx
    have h1 : off + j < cur.size := by omega
    refine hc.2 (off + j) _ x ?_ hx
    have h2 : off + j < len * s := by have := hc.1; rw [List.length_take] at this; omega
    rw [List.getElem?_take_of_lt h2]
    simp [h1]
theorem take_fill {α : Type} (l v : List α) (off m : Nat) (h : off + v.length ≤ m) (hm : m ≤ l.length) :
    (l.take off ++ v ++ l.drop (off + v.length)).take m = (l.take m).take off ++ v ++ (l.take m).drop (off + v.length) := by
  have e : (l.take off ++ v).length = off + v.length := by simp; omega
  rw [List.take_append, e, List.take_of_length_le (by omega), List.drop_take, List.take_take, Nat.min_eq_left (by omega)]
theorem ones_cells {V : Value} {v : AV} (hv : VR G w V v) (hone : allOne v.cells = true) : ∀ u ∈ V.cells.toList, u.oneCell' = true := by
  intro u hu
  have hcv := hv.cells
  obtain ⟨i, hi'⟩ := List.getElem?_of_mem hu
  have hil : i < v.cells.length := by rw [← hcv.1]; exact getElem?_lt hi'
  obtain ⟨x, hx⟩ : ∃ x, v.cells[i]? = some x := ⟨_, List.getElem?_eq_getElem hil⟩
  refine (hcv.2 i u x hi' hx).one ?_
  have : ∀ (l : List AV), allOne l = true → ∀ (i : Nat) x, l[i]? = some x → x.one = true := by
    intro l
    induction l with
    | nil => intro _ i x hx; simp at hx
    | cons a l ih =>
      intro hl i x hx
      simp only [allOne, Bool.and_eq_true] at hl
      cases i with
      | zero => simp at hx; subst hx; exact hl.1
      | succ i => simp at hx; exact ih hl.2 i x hx
  exact this _ hone i x hx
/-- A store into a row. -/
theorem store_row (I : Inv G w h) {t : Nat} {inf : TypeInfo} (hi : P.info? t = some inf) {id len b off e s : Nat} {p : Nat → Prop} {cs : List AV} (r : RowR G id len b p) (ho : h.t.get id = some (.row len e s cs))
    {V : Value} {v : AV} (hv : VR G w V v) (hsz : v.cells.length = inf.size) (hfit : off + inf.size ≤ cs.length) (hone : allOne v.cells = true) :
    ∃ w', (Instr.storeAt t (.pointer (some ⟨b, off, none⟩)) V).run P w = .ok () w' ∧ Inv G w' (h.put id (.row len e s (fillAt cs off v.cells))) ∧ Ext G w h G w' (h.put id (.row len e s (fillAt cs off v.cells))) := by
  obtain ⟨cur, cap, hb, hcv0, _, hbase, hle, hcm, hcs, hc, hfr, how, hs, hid⟩ := I.row r ho
  have hcv := hv.cells
  have hvl : V.cells.size = inf.size := by have := hcv.1; simp at this; omega
  have hms : len * s ≤ cur.size := by rw [hcs]; exact Nat.mul_le_mul_right s hle
  have hcl : cs.length = len * s := by have := hc.1; rw [List.length_take] at this; simp at this; omega
  have h1 := ones_cells hv hone
  have hst := run_storeCells_at P b off e V.cells.toList 0 cur w hb (by simp; omega) h1
  simp only [Nat.add_zero] at hst
  have W : OnlyAt w (w.setRow b (cur.toList.take off ++ V.cells.toList ++ cur.toList.drop (off + V.cells.toList.length)).toArray) b := onlyAt_setRow hb
  have E := put_ext' I hfr how (by rintro ⟨_, e⟩; rw [hcv0] at e; cases e) (.row len e s (fillAt cs off v.cells)) W
  have hheap := setRow_heap w b cur (cur.toList.take off ++ V.cells.toList ++ cur.toList.drop (off + V.cells.toList.length)).toArray e _ hb
  have e1 : V.cells.toList.length = v.cells.length := hcv.1
  refine ⟨_, ?_, ⟨fun j q hq => ?_, fun c k hc => by have := I.frb c k hc; exact ⟨this.1, by rw [W.size]; exact this.2⟩, by rw [W.size]; exact I.bas, fun j c hj => ?_, fun j n v' hc' => ?_, I.ka.mono E⟩, E⟩
  · unfold Instr.storeAt Instr.sureAddr storeVar
    simp only [Sem.run_bind, Sem.run_pure, Result.andThen_ok, run_sizeOf hi, hvl, ne_eq, not_true_eq_false, if_false, hst]
  · by_cases e : j = id
    · subst e; exact hid
    · exact I.wf j q (by rw [← hq]; exact (T.get_set_ne _ _ e).symm)
  · obtain ⟨q1, q2, q3, q4⟩ := I.obj j c hj
    have hji : j ≠ id := by
      rintro rfl
      rw [ho] at q4
      exact q4.elim
    have hne : c ≠ b := by
      rintro rfl
      rw [how] at q3
      simp only [Option.some.injEq] at q3
      exact hji q3.symm
    refine ⟨q1, q2, q3, ?_⟩
    rw [show (h.put id (.row len e s (fillAt cs off v.cells))).t.get j = h.t.get j from T.get_set_ne _ _ hji, W.other c hne]
    exact q4.mono E
  · by_cases hj : j = id
    · subst hj
      rw [hcv0] at hc'
      simp only [Option.some.injEq, Prod.mk.injEq] at hc'
      obtain ⟨rfl, rfl⟩ := hc'
      refine ⟨hid, b, e, s, _, cap, 0, .inr ⟨fillAt cs off v.cells, T.get_set _ _ _, rfl, ?_⟩, rfl, ⟨?_, .inr ⟨b, cap, _, rfl, hbase, hheap, hle, hcm, ?_, rfl⟩⟩, hfr, how, hs⟩
      · simp only []
        rw [take_fill _ _ _ _ (by omega) (by simpa using hms), fillAt_eq cs off v.cells (by omega)]
        have := (((hc.take off).append hcv).append (hc.drop (off + V.cells.toList.length))).mono E
        rw [e1] at this ⊢
        exact this
      · rw [List.length_take]; simp; omega
      · simp; omega
    · obtain ⟨q1, g, e', sz, xs, cap', k, q2, q3, q4, q5, q6, q7⟩ := I.chn j n v' hc'
      have hne : g ≠ b := by
        rintro rfl
        rw [how] at q6
        simp only [Option.some.injEq] at q6
        exact hj q6.symm
      refine ⟨q1, g, e', sz, xs, cap', k, by rw [show (h.put id (.row len e s (fillAt cs off v.cells))).t.get j = h.t.get j from T.get_set_ne _ _ hj]; exact q2.mono E, q3, ?_, q5, q6, q7⟩
      refine q4.kept (row := some b) ⟨W.os, W.tape, W.output, Nat.le_of_eq W.size.symm, fun k _ hk => W.other k (fun e => hk (by rw [e]))⟩ (.inr ?_)
      subst q3
      simp [Value.ownBlock, hne]
end

end Go.Ev
