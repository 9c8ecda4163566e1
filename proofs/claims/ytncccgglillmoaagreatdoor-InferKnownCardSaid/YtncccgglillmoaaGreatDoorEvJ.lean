/- Each operation of the abstract machine is the model's: what hangs on the operands alone, one by one. -/
import Derived.Test.YtncccgglillmoaaGreatDoorEvI
set_option autoImplicit false
set_option linter.unusedSectionVars false
set_option linter.unusedVariables false
set_option linter.unusedSimpArgs false
namespace Go.Ev
variable [Inhabited KA0] [MT]

theorem fillAt_toList {G : Gh} {w : World} {Z : Array Value} {cs : List AV} (r : VRs G w Z.toList cs) {V : Value} {v : AV} (hv : VR G w V v) {off : Nat} (hf : off + v.cells.length ≤ cs.length) :
    VRs G w (V.cells.zipIdx.foldl (fun cs (x : Value × Nat) => cs.setIfInBounds (off + x.2) x.1) Z).toList (fillAt cs off v.cells) := by
  have hzl : (V.cells.zipIdx.foldl (fun cs (x : Value × Nat) => cs.setIfInBounds (off + x.2) x.1) Z) = (V.cells.toList.zipIdx.foldl (fun cs (x : Value × Nat) => cs.setIfInBounds (off + x.2) x.1) Z) := by
    rw [← Array.foldl_toList, Array.toList_zipIdx]
  have hc := hv.cells
  have hl := r.1
  simp at hl
  rw [hzl, fold_splice V.cells.toList Z off 0 (by rw [hc.1]; omega), fillAt_eq cs off v.cells hf, hc.1]
  exact ((r.take _).append hc).append (r.drop _)

theorem fill_sim {G : Gh} {w : World} {fs : List (Nat × Nat × Bool)} {place : Nat → Option (Nat × Nat)} (hp : ∀ i off sz ag, fs[i]? = some (off, sz, ag) → place i = some (off, sz)) :
    ∀ {is : List Nat} {vs : List AV} {Vs : List Value} {Z : Array Value} {cs out : List AV}, VRs G w Vs vs → VRs G w Z.toList cs → fillF fs cs (is.zip vs) = some out →
    ∃ C, Instr.fill place Z (is.zip Vs) = some C ∧ VRs G w C.toList out := by
  intro is
  induction is with
  | nil =>
    intro vs Vs Z cs out hV hZ h
    simp only [List.zip_nil_left, fillF, Option.some.injEq] at h
    subst h
    exact ⟨Z, by simp [Instr.fill], hZ⟩
  | cons i is ih =>
    intro vs Vs Z cs out hV hZ h
    cases vs with
    | nil =>
      simp only [List.zip_nil_right, fillF, Option.some.injEq] at h
      subst h
      have : Vs = [] := List.eq_nil_of_length_eq_zero (by rw [hV.1]; rfl)
      subst this
      exact ⟨Z, by simp [Instr.fill], hZ⟩
    | cons v vs =>
      obtain ⟨V, Vs', rfl, h1, h2⟩ := hV.uncons
      simp only [List.zip_cons_cons, fillF] at h
      cases hf : fs[i]? with
      | none => rw [hf] at h; simp at h
      | some q =>
        obtain ⟨off, sz, ag⟩ := q
        rw [hf] at h
        simp only at h
        cases hc : (Nat.beq v.cells.length sz && Nat.ble (off + sz) cs.length) with
        | false => rw [hc] at h; simp at h
        | true =>
          rw [hc] at h
          simp only [cond_true] at h
          simp only [Bool.and_eq_true] at hc
          have hsz := beq_nat.1 hc.1
          have hle := Nat.le_of_ble_eq_true hc.2
          have hcv := h1.cells.1
          simp at hcv
          have hZl := hZ.1
          simp at hZl
          obtain ⟨C, k1, k2⟩ := ih h2 (fillAt_toList hZ h1 (off := off) (by omega)) h
          refine ⟨C, ?_, k2⟩
          rw [List.zip_cons_cons]
          simp only [Instr.fill, hp i off sz ag hf]
          rw [if_neg (by simp; omega)]
          exact k1

section
variable {P : Program} {G : Gh} {w : World} {h : H}

theorem zero_VR {ty : Nat → Option TyI} (hT : TyOk P ty) {t : Nat} {i : TyI} {z : AV} (ht : ty t = some i) (hz : i.zero = some z) :
    ∃ inf Z, P.info? t = some inf ∧ inf.zero = some Z ∧ VR G w Z z := by
  obtain ⟨inf, d, h1, h2, _, _, _, h3, _⟩ := tyOf_some (hT t i ht)
  rw [h3] at hz
  obtain ⟨Z, h4, h5⟩ := Option.bind_eq_some_iff.1 hz
  exact ⟨inf, Z, h1, h4, ofVal_VR G w h5⟩

theorem fields_places {fields : Array Field} {fs : List (Nat × Nat × Bool)} (h : all0 (fieldOf P) fields.toList = some fs) :
    fields.toList.mapM (fun f => (P.info? f.type).map fun i => (f.offset, i.size)) = some (fs.map fun x => (x.1, x.2.1)) := by
  generalize fields.toList = l at h
  induction l generalizing fs with
  | nil => simp [all0] at h; subst h; rfl
  | cons f l ih =>
    simp only [all0] at h
    cases hf : fieldOf P f with
    | none => rw [hf] at h; simp at h
    | some b =>
      rw [hf] at h
      simp only at h
      cases hl : all0 (fieldOf P) l with
      | none => rw [hl] at h; simp at h
      | some m =>
        rw [hl] at h
        simp only [Option.some.injEq] at h
        subst h
        unfold fieldOf at hf
        split at hf
        · rename_i i d h1 h2
          simp only [Option.some.injEq] at hf
          subst hf
          simp [List.mapM_cons, h1, ih hl]
        · simp at hf

theorem build_sim {ty : Nat → Option TyI} (hT : TyOk P ty) {t : Nat} {fs : List (Nat × Nat × Bool)} {sz byt : Nat} {z : AV} {ag : Bool} {ef : Option (List (Nat × Nat))} (ht : ty t = some ⟨.st fs, sz, byt, some z, ag, ef⟩)
    {parts : List (Nat × Operand)} {ρ : Operand → Value} {vs : List AV} (hv : VRs G w ((parts.map (·.2)).map ρ) vs) {cs : List AV} (hf : fillF fs z.cells ((parts.map (·.1)).zip vs) = some cs) :
    ∃ C, (Instr.build t (parts.map fun x => (x.1, ρ x.2)).toArray).run P w = .ok (.agg C) w ∧ VR G w (.agg C) (.agg cs) := by
  obtain ⟨inf, d, h1, h2, hk, _, _, _, _⟩ := tyOf_some (hT t _ ht)
  obtain ⟨fields, rfl, hfs⟩ := kind_struct hk
  obtain ⟨inf', Z, h3, h4, h5⟩ := zero_VR (G := G) (w := w) hT ht rfl
  rw [h1] at h3
  simp only [Option.some.injEq] at h3
  subst h3
  have hpl := fields_places hfs
  have e : (parts.map fun x => (x.1, ρ x.2)) = (parts.map (·.1)).zip ((parts.map (·.2)).map ρ) := by
    rw [List.map_map, List.zip_map']
    rfl
  obtain ⟨C, hC1, hC2⟩ := fill_sim (place := ((fs.map fun x => (x.1, x.2.1)).toArray[·]?)) (fun i off sz ag hi => by simp [hi]) hv h5.cells hf
  refine ⟨C, ?_, .agg C cs (by have := hC2.1; simpa using this) fun i u x hu hx => hC2.2 i u x (by simpa using hu) hx⟩
  refine run_build w t _ C ?_
  unfold Program.built
  rw [h1, h2]
  simp only [h4, hpl]
  rw [e]
  exact hC1

theorem sizesAre_spec {s : Nat} : ∀ {l : List AV}, sizesAre s l = true → ∀ x ∈ l, x.cells.length = s
  | [], _, x, hx => by simp at hx
  | v :: l, h, x, hx => by
    simp only [sizesAre, Bool.and_eq_true] at h
    rcases List.mem_cons.1 hx with rfl | hx
    · exact beq_nat.1 h.1
    · exact sizesAre_spec h.2 x hx
theorem dense_spec : ∀ {l : List (Nat × Operand)} {k : Nat}, denseFrom k l = true → l.map (·.1) = List.range' k l.length
  | [], k, _ => rfl
  | (i, x) :: l, k, h => by
    simp only [denseFrom, Bool.and_eq_true] at h
    rw [List.map_cons, List.length_cons, List.range'_succ, dense_spec h.2, beq_nat.1 h.1]

theorem buildSlice_run {ty : Nat → Option TyI} (hT : TyOk P ty) (I : Inv G w h) {t e len : Nat} {s1 b1 : Nat} {z1 : Option AV} {a1 : Bool} {ef1 ef2 : Option (List (Nat × Nat))} (ht : ty t = some ⟨.sl e, s1, b1, z1, a1, ef1⟩)
    {k : TK} {sz byt : Nat} {z : AV} {ag : Bool} (he : ty e = some ⟨k, sz, byt, some z, ag, ef2⟩) {parts : List (Nat × Operand)} {ρ : Operand → Value} {vs : List AV} (hv : VRs G w ((parts.map (·.2)).map ρ) vs)
    (hd : denseFrom 0 parts = true) (hl : vs.length = len) (hs : sizesAre sz vs = true) (hsz : 0 < sz) (hzl : z.cells.length = sz) (hmax : len * sz ≤ 16777216) :
    ∃ C : Array Value, (Instr.buildSlice t len (parts.map fun x => (x.1, ρ x.2)).toArray).run P w = .ok (.slice (some ⟨w.heap.size, 0, none⟩) len len) (w.alloc (.cells C e)) ∧ VRs G w C.toList (vs.flatMap AV.cells) ∧ C.size = len * sz := by
  obtain ⟨inf, d, h1, h2, hk, _⟩ := tyOf_some (hT t _ ht)
  have := kind_slice hk
  subst this
  obtain ⟨ie, de, g1, g2, _, hsize, _⟩ := tyOf_some (hT e _ he)
  simp only at hsize
  obtain ⟨ie', Z, g3, g4, g5⟩ := zero_VR (G := G) (w := w) hT he rfl
  rw [g1] at g3
  simp only [Option.some.injEq] at g3
  subst g3
  have hZs : Z.cells.size = sz := by have := g5.cells.1; simp at this; omega
  have hvl := hv.1
  simp at hvl
  have epar : (parts.map fun x => (x.1, ρ x.2)) = (parts.map (·.1)).zip ((parts.map (·.2)).map ρ) := by
    rw [List.map_map, List.zip_map']
    rfl
  have hVs : ∀ V ∈ (parts.map (·.2)).map ρ, V.cells.size = sz := by
    intro V hV
    obtain ⟨i, hi⟩ := List.getElem?_of_mem hV
    have hil := getElem?_lt hi
    rw [hv.1] at hil
    have hx := hv.2 i V vs[i] hi (List.getElem?_eq_getElem hil)
    have := hx.cells.1
    rw [sizesAre_spec hs _ (List.getElem_mem hil)] at this
    simpa using this
  obtain ⟨C, hC1, hC2⟩ := fill_dense sz ((parts.map (·.2)).map ρ) 0 ((Array.range (len * sz)).map (Z.cells[· % Z.cells.size]!)) hVs (by simp [hvl, hl])
  rw [List.length_map, List.length_map, ← dense_spec hd, ← epar] at hC1
  simp only [Nat.zero_mul, List.take_zero, List.nil_append] at hC2
  have hflat : VRs G w C.toList (vs.flatMap AV.cells) := by rw [hC2]; exact hv.flat
  refine ⟨C, ?_, hflat, ?_⟩
  · unfold Instr.buildSlice
    have hbig : ¬ len * sz > 2 ^ 24 := by omega
    simp only [Sem.run_bind, run_under h2, Result.andThen_ok, run_sizeOf g1, ← hsize, hbig, if_false]
    by_cases hz0 : len * sz = 0
    · have e0 : ((Array.range (len * sz)).map (Z.cells[· % Z.cells.size]!)) = ((Array.range (len * sz)).map ((#[] : Array Value)[· % (#[] : Array Value).size]!)) := by rw [hz0]; simp
      rw [e0] at hC1
      rw [hz0] at hC1 ⊢
      simp only [if_true, Sem.run_pure, Result.andThen_ok, hC1, newRow, Sem.run_bind, run_newObj, World.alloc_eq]
    · simp only [hz0, if_false, Sem.run_bind, run_zero g1 g4, Result.andThen_ok, Sem.run_pure, hC1, newRow, run_newObj, World.alloc_eq]
  · have := hflat.1
    rw [flat_length _ sz vs (sizesAre_spec hs), hl] at this
    simpa using this
theorem buildSlice_sim {ty : Nat → Option TyI} (hT : TyOk P ty) (I : Inv G w h) {t e len : Nat} {s1 b1 : Nat} {z1 : Option AV} {a1 : Bool} {ef1 ef2 : Option (List (Nat × Nat))} (ht : ty t = some ⟨.sl e, s1, b1, z1, a1, ef1⟩)
    {k : TK} {sz byt : Nat} {z : AV} {ag : Bool} (he : ty e = some ⟨k, sz, byt, some z, ag, ef2⟩) {parts : List (Nat × Operand)} {ρ : Operand → Value} {vs : List AV} (hv : VRs G w ((parts.map (·.2)).map ρ) vs)
    (hd : denseFrom 0 parts = true) (hl : vs.length = len) (hs : sizesAre sz vs = true) (hsz : 0 < sz) (hzl : z.cells.length = sz) (hmax : len * sz ≤ 16777216) :
    ∃ V w', (Instr.buildSlice t len (parts.map fun x => (x.1, ρ x.2)).toArray).run P w = .ok V w' ∧ Inv G w' h ∧ Ext G w h G w' h ∧ VR G w' V (.sl .full vs) := by
  obtain ⟨C, h1, hflat, _⟩ := buildSlice_run (G := G) (w := w) hT I ht he hv hd hl hs hsz hzl hmax
  refine ⟨_, _, h1, alloc_inv I _, alloc_ext I _, ?_⟩
  have := VR.sl_new (e := e) (sizesAre_spec hs) hflat I
  rw [hl] at this
  simpa using this
end

end Go.Ev
