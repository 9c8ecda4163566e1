/- Each operation of the abstract machine is the model's: pieces, elements, fields. -/
import Derived.Test.YtmnhhlkbpjemnaaDoorEvJ
import Derived.Lib.ConvBytes
import Derived.Laws.BytesString
set_option autoImplicit false
set_option linter.unusedSectionVars false
set_option linter.unusedVariables false
set_option linter.unusedSimpArgs false
namespace Go.Ev
variable [Inhabited KA0]

section
variable {P : Program} {G : Gh} {w : World} {h : H}

def iv (n : Nat) : Value := .int .i64 (Int.ofNat n)

theorem natOf_VR {tm : Tm} {ρ : Operand → Value} {x : Option Operand} {a : Option AV} {r : Option Nat} (hx : optVal tm x = some a) (hn : natOf a = some r) (hv : ∀ y ∈ x.toArray, ∀ u, val tm y = some u → VR G w (ρ y) u) : x.map ρ = r.map iv := by
  cases x with
  | none =>
    simp only [optVal, Option.some.injEq] at hx
    subst hx
    simp only [natOf, Option.some.injEq] at hn
    subst hn
    rfl
  | some y =>
    simp only [optVal] at hx
    obtain ⟨u, hu, rfl⟩ := Option.map_eq_some_iff.1 hx
    unfold natOf at hn
    split at hn
    · rename_i e; cases e
    · rename_i n e
      simp only [Option.some.injEq] at e hn
      subst e; subst hn
      have := hv y (by simp) _ hu
      simp only [Option.map_some]
      generalize ρ y = z at this
      cases this
      rfl
    · simp at hn

theorem bounds_none {isS : Bool} {len cap : Nat} {lo hi : Option Nat} (h1 : lo.getD 0 ≤ hi.getD len) (h2 : hi.getD len ≤ cap) :
    (Instr.sliceBounds isS len cap (lo.map iv) (hi.map iv) none).run P w = .ok (lo.getD 0, hi.getD len, cap) w := by
  cases lo <;> cases hi <;> simp only [Option.map_none, Option.map_some, Option.getD_none, Option.getD_some, iv] at * <;>
    simp [Instr.sliceBounds, run_sliceBound, *]
theorem bounds_some {isS : Bool} {len cap h m : Nat} {lo : Option Nat} (h1 : lo.getD 0 ≤ h) (h2 : h ≤ m) (h3 : m ≤ cap) :
    (Instr.sliceBounds isS len cap (lo.map iv) (some (iv h)) (some (iv m))).run P w = .ok (lo.getD 0, h, m) w := by
  cases lo <;> simp only [Option.map_none, Option.map_some, Option.getD_none, Option.getD_some, iv] at * <;>
    simp [Instr.sliceBounds, run_sliceBound, *]

theorem slice_str_sim {t : Nat} (hd : P.underlying t = some .string) {s : ByteArray} {lo hi : Option Nat} {v : AV} (hv : evSlice (.str (bytesOf s)) lo hi none = some v) :
    ∃ V, (Instr.sliceAt t (.string s) (lo.map iv) (hi.map iv) none).run P w = .ok V w ∧ VR G w V v := by
  unfold evSlice at hv
  simp only at hv
  cases hc : (Nat.ble (lo.getD 0) (hi.getD (bytesOf s).length) && Nat.ble (hi.getD (bytesOf s).length) (bytesOf s).length) with
  | false => rw [hc] at hv; simp at hv
  | true =>
    rw [hc] at hv
    simp only [cond_true, Option.some.injEq] at hv
    simp only [Bool.and_eq_true] at hc
    have h1 := Nat.le_of_ble_eq_true hc.1
    have h2 := Nat.le_of_ble_eq_true hc.2
    rw [bytesOf_length] at h1 h2 hv
    have hb := bounds_none (P := P) (w := w) (isS := false) (lo := lo) (hi := hi) (len := s.size) (cap := s.size) h1 h2
    refine ⟨.string (s.extract (lo.getD 0) (hi.getD s.size)), ?_, ?_⟩
    · rw [run_sliceAt_string w t _ _ _ _ hd]
      unfold Instr.slice
      simp only [Sem.run_bind, run_under hd, Result.andThen_ok, hb, Option.isSome_none, Bool.false_eq_true, if_false, Sem.run_pure]
    · subst hv
      have : (List.take (hi.getD s.size - lo.getD 0) (List.drop (lo.getD 0) (bytesOf s))) = bytesOf (s.extract (lo.getD 0) (hi.getD s.size)) := by
        unfold bytesOf
        rw [Lib.extract_data, List.map_take, List.map_drop]
      rw [this]
      exact .str _

theorem slice_sl_sim {t e : Nat} {ie : TypeInfo} (hd : P.underlying t = some (.slice e)) (hi : P.info? e = some ie) {A : Value} {o : Own} {els : List AV} (hA : VR G w A (.sl o els)) (hs : sizesAre ie.size els = true)
    {lo hh mx : Option Nat} {v : AV} (hv : evSlice (.sl o els) lo hh mx = some v) :
    ∃ V, (Instr.sliceAt t A (lo.map iv) (hh.map iv) (mx.map iv)).run P w = .ok V w ∧ VR G w V v := by
  have hrun : ∀ (a : Option Addr) (len cap l h m : Nat), (Instr.sliceBounds true len cap (lo.map iv) (hh.map iv) (mx.map iv)).run P w = .ok (l, h, m) w →
      (Instr.sliceAt t (.slice a len cap) (lo.map iv) (hh.map iv) (mx.map iv)).run P w = .ok (.slice (if m = l then a else a.map (·.add (l * ie.size))) (h - l) (m - l)) w := by
    intro a len cap l h m hb
    have e1 : (Instr.sliceAt t (.slice a len cap) (lo.map iv) (hh.map iv) (mx.map iv)).run P w = (Instr.slice t (.slice a len cap) (lo.map iv) (hh.map iv) (mx.map iv)).run P w := by
      simp [Instr.sliceAt, run_under hd]
    rw [e1]
    unfold Instr.slice
    simp only [Sem.run_bind, run_under hd, Result.andThen_ok, hb, run_sizeOf hi, Sem.run_pure]
  -- the piece, wherever its bounds lie
  have piece : ∀ (len cap l h m : Nat) (a : Option Addr) (o' : Own), A = .slice a len cap → els.length = len → l ≤ h → h ≤ len → h ≤ m → m ≤ cap →
      OwnR G o' (.slice (if m = l then a else a.map (·.add (l * ie.size))) (h - l) (m - l)) (h - l) (m - l) →
      VR G w (.slice (if m = l then a else a.map (·.add (l * ie.size))) (h - l) (m - l)) (.sl o' ((els.drop l).take (h - l))) := by
    intro len cap l h m a o' hAe hlen hlh hhl hhm hmc ho'
    subst hAe
    cases hA with
    | sl0 _ _ o hn ho =>
      have e1 : h = 0 := by simp at hlen; omega
      have e2 : l = 0 := by omega
      subst e1; subst e2
      simp only [Nat.sub_self, List.take_zero] at ho' ⊢
      refine .sl0 _ _ _ (fun hz => ?_) ho'
      cases a with
      | none => have := hn rfl; omega
      | some a => split at hz <;> simp at hz
    | sl b off _ _ s _ _ f hl2 hc2 hs2 h1 h2 ho2 =>
      have hlen' : ((els.drop l).take (h - l)).length = h - l := by simp; omega
      by_cases hml : m = l
      · rw [if_pos hml] at ho' ⊢
        have e1 : h - l = 0 := by omega
        have e2 : m - l = 0 := by omega
        rw [e1, e2] at ho' ⊢
        simp only [List.take_zero]
        exact .sl b off 0 0 0 o' [] (fun _ _ => undef) rfl (Nat.le_refl _) (fun x hx => by simp at hx) (fun i j hi => absurd hi (by omega)) (fun i j x y hx => by simp at hx) ho'
      · rw [if_neg hml] at ho' ⊢
        simp only [Option.map_some, addr_add] at ho' ⊢
        have hss : ∀ x ∈ els, x.cells.length = ie.size := sizesAre_spec hs
        by_cases hz : els = []
        · subst hz
          have e1 : h - l = 0 := by simp at hlen; omega
          rw [e1] at ho' ⊢
          simp only [List.take_zero]
          exact .sl b _ 0 _ 0 o' [] (fun _ _ => undef) rfl (Nat.zero_le _) (fun x hx => by simp at hx) (fun i j hi => absurd hi (by omega)) (fun i j x y hx => by simp at hx) ho'
        · obtain ⟨x0, hx0⟩ := List.exists_mem_of_ne_nil els hz
          have hse : s = ie.size := by rw [← hs2 x0 hx0, hss x0 hx0]
          subst hse
          refine .sl b _ (h - l) (m - l) _ o' _ (fun i j => f (l + i) j) hlen' (by omega) (fun x hx => hs2 x (List.mem_of_mem_drop (List.mem_of_mem_take hx))) (fun i j hi hj => ?_) (fun i j x y hx hy => ?_) ho'
          · have := h1 (l + i) j (by omega) hj
            rw [Nat.add_mul] at this
            rw [show off + l * ie.size + i * ie.size + j = off + (l * ie.size + i * ie.size) + j by omega]
            exact this
          · have hi := getElem?_lt hx
            rw [hlen'] at hi
            rw [List.getElem?_take_of_lt hi, List.getElem?_drop] at hx
            exact h2 (l + i) j x y hx hy
  unfold evSlice at hv
  simp only at hv
  -- the slice's own shape
  obtain ⟨a, len, cap, hAe, hlen, hcap, how⟩ : ∃ a len cap, A = .slice a len cap ∧ els.length = len ∧ len ≤ cap ∧ OwnR G o (.slice a len cap) len cap := by
    cases hA with
    | sl0 A cap o hn ho => exact ⟨A, 0, cap, rfl, rfl, Nat.zero_le _, ho⟩
    | sl b off len cap s o els f hl2 hc2 hs2 h1 h2 ho2 => exact ⟨_, len, cap, rfl, hl2, hc2, ho2⟩
  cases mx with
  | some m =>
    simp only at hv
    cases hh with
    | none => simp at hv
    | some q =>
      simp only [Option.getD_some] at hv
      cases hc : (Nat.ble (lo.getD 0) q && (Nat.ble q m && Nat.ble m els.length)) with
      | false => rw [hc] at hv; simp at hv
      | true =>
        rw [hc] at hv
        simp only [cond_true, Option.some.injEq] at hv
        simp only [Bool.and_eq_true] at hc
        have c1 := Nat.le_of_ble_eq_true hc.1
        have c2 := Nat.le_of_ble_eq_true hc.2.1
        have c3 := Nat.le_of_ble_eq_true hc.2.2
        subst hv
        refine ⟨_, by rw [hAe]; exact hrun a len cap _ _ _ (bounds_some c1 c2 (by omega)), ?_⟩
        refine piece len cap _ _ _ a _ hAe hlen c1 (by omega) c2 (by omega) ?_
        cases hqm : Nat.beq q m with
        | true =>
          simp only [cond_true, OwnR]
          have := beq_nat.1 hqm
          omega
        | false => simp only [cond_false]; trivial
  | none =>
    simp only at hv
    cases hc : (Nat.ble (lo.getD 0) (hh.getD els.length) && Nat.ble (hh.getD els.length) els.length) with
    | false => rw [hc] at hv; simp at hv
    | true =>
      rw [hc] at hv
      simp only [cond_true, Option.some.injEq] at hv
      simp only [Bool.and_eq_true] at hc
      have c1 := Nat.le_of_ble_eq_true hc.1
      have c2 := Nat.le_of_ble_eq_true hc.2
      subst hv
      rw [hlen] at c1 c2 ⊢
      refine ⟨_, by rw [hAe]; exact hrun a len cap _ _ _ (bounds_none c1 (by omega)), ?_⟩
      refine piece len cap _ _ _ a _ hAe hlen c1 c2 (by omega) (Nat.le_refl _) ?_
      cases hq : Nat.beq (hh.getD len) len with
      | false => simp only [cond_false]; trivial
      | true =>
        have hql := beq_nat.1 hq
        simp only [cond_true]
        cases o with
        | no => trivial
        | full =>
          simp only [OwnR] at how ⊢
          omega
        | ch id =>
          simp only
          cases hl0 : Nat.beq (lo.getD 0) 0 with
          | false => simp only [cond_false]; trivial
          | true =>
            simp only [cond_true]
            have := beq_nat.1 hl0
            rw [this, hql]
            have e : (if cap = 0 then a else a.map (·.add (0 * ie.size))) = a := by
              split
              · rfl
              · cases a <;> simp [Addr.add]
            rw [e]
            exact how
end

/-! ### Bytes and strings -/
section
variable {P : Program} {G : Gh} {w : World} {h : H}

/-- A world with more behind: nothing else. -/
theorem grow_ext (G : Gh) (h : H) {w w' : World} (h1 : w'.os = w.os) (h2 : w'.tape = w.tape) (h3 : w'.output = w.output) (h4 : w.heap.size ≤ w'.heap.size) (h5 : ∀ j, j < w.heap.size → w'.heap[j]? = w.heap[j]?) : Ext G w h G w' h where
  os := h1
  tape := h2
  output := h3
  size := h4
  base := rfl
  still := fun b hb hf => ⟨h5 b hb, hf⟩
  part := fun b k q v hf ho hv => ⟨(World.cell?_of_block (w := w) (a := ⟨b, q, none⟩) (h5 b (World.block_lt_of_cell? w ⟨b, q, none⟩ hv))).trans hv, .inr ⟨k, hf, ho⟩⟩
  ρ := fun _ _ h => h
  cv := fun _ n v h => ⟨n, v, h, Nat.le_refl _, fun _ => rfl⟩
  nx := Nat.le_refl _
  unm := fun _ _ a b => ⟨rfl, a, b⟩
  own := fun b hb ho => ⟨h5 b hb, rfl, ho⟩
theorem grow_inv (I : Inv G w h) {w' : World} (h1 : w'.os = w.os) (h2 : w'.tape = w.tape) (h3 : w'.output = w.output) (h4 : w.heap.size ≤ w'.heap.size) (h5 : ∀ j, j < w.heap.size → w'.heap[j]? = w.heap[j]?) : Inv G w' h where
  wf := I.wf
  frb := fun b k hf => ⟨(I.frb b k hf).1, Nat.lt_of_lt_of_le (I.frb b k hf).2 h4⟩
  bas := Nat.le_trans I.bas h4
  obj := fun id b hr => by
    obtain ⟨a1, a2, a3, a4⟩ := I.obj id b hr
    refine ⟨a1, a2, a3, ?_⟩
    rw [h5 b (I.frb b 0 a2).2]
    exact a4.mono (grow_ext G h h1 h2 h3 h4 h5)
  chn := fun id n v hc => by
    obtain ⟨a1, g, e, size, xs, cap, b2, b3, b4, b5⟩ := I.chn id n v hc
    refine ⟨a1, g, e, size, xs, cap, b2, b3, b4.kept (row := none) ⟨h1, h2, h3, h4, fun k hk _ => h5 k hk⟩ (.inr ?_), b5⟩
    subst b3
    simp [Value.ownBlock]
  ka := I.ka.mono (grow_ext G h h1 h2 h3 h4 h5)

theorem strBytes_sim (I : Inv G w h) {src dst e : Nat} {u : TypeDesc} (hs : P.underlying src = some u) (hd : P.underlying dst = some (.slice e)) (he : P.underlying e = some (.int .u8)) (s : ByteArray) :
    ∃ V w', (convert src dst (.string s)).run P w = .ok V w' ∧ Inv G w' h ∧ Ext G w h G w' h ∧ VR G w' V (.sl .no ((bytesOf s).map fun n => .int .u8 (Int.ofNat n))) := by
  have h5 : ∀ j, j < w.heap.size → (Lib.bytesWorld w e s).heap[j]? = w.heap[j]? := fun j hj => Lib.bytesWorld_at_old w e s j hj
  have h4 : w.heap.size ≤ (Lib.bytesWorld w e s).heap.size := by rw [Lib.bytesWorld_size]; omega
  have e1 : (Lib.bytesWorld w e s).os = w.os := by simp [Lib.bytesWorld, World.freeze, World.alloc, World.drew, -World.alloc_eq, -World.drew_eq]
  have e2 : (Lib.bytesWorld w e s).tape = w.tape := by simp [Lib.bytesWorld, World.freeze, World.alloc, World.drew, -World.alloc_eq, -World.drew_eq]
  have e3 : (Lib.bytesWorld w e s).output = w.output := by simp [Lib.bytesWorld, World.freeze, World.alloc, World.drew, -World.alloc_eq, -World.drew_eq]
  refine ⟨_, _, Lib.run_convert_string_bytes w src dst e s hs hd he, grow_inv I e1 e2 e3 h4 h5, grow_ext G h e1 e2 e3 h4 h5, ?_⟩
  have hf : G.fr w.heap.size = none := I.fresh.2.2
  refine .sl w.heap.size 0 s.size _ 1 .no _ (fun i _ => .int .u8 ((s.data.toList.getD i 0).toNat : Int)) (by simp [bytesOf_length]) (grownCap_ge ..) (fun x hx => ?_) (fun i j hi hj => ⟨?_, .inl hf⟩) (fun i j x y hx hy => ?_) trivial
  · obtain ⟨n, _, rfl⟩ := List.mem_map.1 hx
    rfl
  · obtain rfl : j = 0 := by omega
    have := Lib.bytesWorld_cell w e s i hi
    simpa using this
  · obtain ⟨n, hn, rfl⟩ : ∃ n, (bytesOf s)[i]? = some n ∧ x = .int .u8 (Int.ofNat n) := by
      rw [List.getElem?_map] at hx
      cases hb : (bytesOf s)[i]? with
      | none => rw [hb] at hx; simp at hx
      | some n => rw [hb] at hx; simp at hx; exact ⟨n, rfl, hx.symm⟩
    have hj : j = 0 ∧ y = .int .u8 (Int.ofNat n) := by
      cases j with
      | zero => simp [AV.cells] at hy; exact ⟨rfl, hy.symm⟩
      | succ j => simp [AV.cells] at hy
    obtain ⟨rfl, rfl⟩ := hj
    have : (s.data.toList.getD i 0).toNat = n := by
      unfold bytesOf at hn
      rw [List.getElem?_map] at hn
      cases hb : s.data.toList[i]? with
      | none => rw [hb] at hn; simp at hn
      | some c => rw [hb] at hn; simp at hn; rw [List.getD_eq_getElem?_getD, hb]; simpa using hn
    rw [this]
    exact .int _ _

theorem byteEls_some : ∀ {els : List AV} {m : List Nat}, byteEls els = some m → els = m.map (fun n => .int .u8 (Int.ofNat n)) ∧ ∀ n ∈ m, n < 256
  | [], m, h => by simp [byteEls] at h; subst h; simp
  | x :: l, m, h => by
    unfold byteEls at h
    split at h
    · simp_all
    · rename_i n l' hx
      split at h
      · simp at h
      · rename_i m' hm
        cases hb : Nat.blt n 256 with
        | false => rw [hb] at h; simp at h
        | true =>
          rw [hb] at h
          simp only [cond_true, Option.some.injEq] at h
          subst h
          simp only [List.cons.injEq] at hx
          obtain ⟨rfl, rfl⟩ := hx
          obtain ⟨h1, h2⟩ := byteEls_some hm
          refine ⟨by rw [h1]; rfl, fun k hk => ?_⟩
          rcases List.mem_cons.1 hk with rfl | hk
          · exact blt_nat.1 hb
          · exact h2 k hk
    · simp at h
theorem bytesOf_fold : ∀ (ns : List Int) (r : ByteArray), bytesOf (ns.foldl (fun r n => r.push (UInt8.ofNat n.toNat)) r) = bytesOf r ++ ns.map fun n => (UInt8.ofNat n.toNat).toNat
  | [], r => by simp
  | n :: ns, r => by
    rw [List.foldl_cons, bytesOf_fold ns]
    simp [bytesOf, ByteArray.push]

theorem bytesStr_sim {V : Value} {o : Own} {els : List AV} (hV : VR G w V (.sl o els)) {m : List Nat} (hm : byteEls els = some m) :
    ∃ S, (Conv.bytesToString V).run P w = .ok (.string S) w ∧ bytesOf S = m := by
  obtain ⟨h1, h2⟩ := byteEls_some hm
  cases hV with
  | sl0 A _ _ _ _ =>
    cases m with
    | nil => cases A with
      | none => exact ⟨.empty, by simp [Conv.bytesToString], rfl⟩
      | some a => exact ⟨.empty, by simp [Conv.bytesToString, loadCells, loadCellsFrom], rfl⟩
    | cons a m => simp at h1
  | sl b off len cap s _ _ f hl hc hs hst hvr ho =>
    refine ⟨_, run_bytesToString w ⟨b, off, none⟩ len cap (m.map Int.ofNat) ?_, ?_⟩
    · have hload := run_loadCells (P := P) (w := w) ⟨b, off, none⟩ len (fun j => f j 0) (fun j hj => by
        rw [addr_add]
        have hj' : j < els.length := by omega
        have h1s : s = 1 := by
          have := hs els[j] (List.getElem_mem hj')
          subst h1
          simp [AV.cells] at this
          exact this.symm
        subst h1s
        have := (hst j 0 hj (by omega)).1
        simpa using this)
      rw [hload]
      congr 2
      apply List.ext_getElem?
      intro j
      by_cases hj : j < len
      · have hj' : j < els.length := by omega
        have hjm : j < m.length := by rw [h1] at hj'; simpa using hj'
        have hx : els[j]? = some (.int .u8 (Int.ofNat m[j])) := by rw [h1]; simp [hjm]
        have := hvr j 0 _ (.int .u8 (Int.ofNat m[j])) hx rfl
        have hfj : f j 0 = .int .u8 (Int.ofNat m[j]) := by
          generalize f j 0 = z at this
          cases this
          rfl
        simp [hj, hjm, hfj]
      · have : ¬ j < m.length := by rw [h1] at hl; simp at hl; omega
        simp [hj, this]
    · rw [bytesOf_fold]
      have : (m.map Int.ofNat).map (fun n => (UInt8.ofNat n.toNat).toNat) = m := by
        rw [List.map_map]
        conv => rhs; rw [← List.map_id m]
        refine List.map_congr_left fun n hn => ?_
        have := h2 n hn
        simp
        omega
      rw [this]
      rfl
end

end Go.Ev
/- Each operation of the abstract machine is the model's: all that hang on the operands alone. -/
set_option autoImplicit false
set_option linter.unusedSectionVars false
set_option linter.unusedVariables false
set_option linter.unusedSimpArgs false
namespace Go.Ev
variable [Inhabited KA0]

section
variable {P : Program} {G : Gh} {w : World} {h : H}

theorem part_sim {t : Nat} {inf : TypeInfo} {d : TypeDesc} (hi : P.info? t = some inf) (hd : P.underlying t = some d) {C : Array Value} {cs : List AV} (hC : C.size = cs.length) (h1 : ∀ (i : Nat) v x, C[i]? = some v → cs[i]? = some x → VR G w v x)
    {off : Nat} {v : AV} (hv : readAt (isAggD d) inf.size cs off = some v) : ∃ V, (part t C off).run P w = .ok V w ∧ VR G w V v := by
  unfold part
  simp only [Sem.run_bind, run_isAgg hd, Result.andThen_ok]
  unfold readAt at hv
  cases ha : isAggD d with
  | true =>
    rw [ha] at hv
    simp only [cond_true] at hv
    cases hb : Nat.ble (off + inf.size) cs.length with
    | false => rw [hb] at hv; simp at hv
    | true =>
      rw [hb] at hv
      have hle := Nat.le_of_ble_eq_true hb
      simp only [cond_true, Option.some.injEq] at hv
      subst hv
      refine ⟨.agg (C.extract off (off + inf.size)), by simp only [if_true, Sem.run_bind, run_sizeOf hi, Result.andThen_ok, Sem.run_pure], .agg _ _ (by simp; omega) fun i u x hu hx => ?_⟩
      rw [List.getElem?_take] at hx
      split at hx
      · rename_i hlt
        rw [List.getElem?_drop] at hx
        rw [Array.getElem?_extract] at hu
        split at hu
        · exact h1 (off + i) u x hu hx
        · cases hu
      · cases hx
  | false =>
    rw [ha] at hv
    simp only [cond_false] at hv
    have hl := getElem?_lt hv
    rw [← hC] at hl
    refine ⟨C[off], ?_, h1 off _ v (Array.getElem?_eq_getElem hl) hv⟩
    simp [Array.getElem?_eq_getElem hl]

theorem field_some {ty : Nat → Option TyI} (hT : TyOk P ty) {t : Nat} {fs : List (Nat × Nat × Bool)} {sz byt : Nat} {z : Option AV} {ag : Bool} {ef : Option (List (Nat × Nat))} (ht : ty t = some ⟨.st fs, sz, byt, z, ag, ef⟩) {f off fsz : Nat} {fag : Bool} (hf : fs[f]? = some (off, fsz, fag)) :
    ∃ fields fd inf d, P.underlying t = some (.struct fields) ∧ fields[f]? = some fd ∧ P.info? fd.type = some inf ∧ P.underlying fd.type = some d ∧ fd.offset = off ∧ inf.size = fsz ∧ isAggD d = fag := by
  obtain ⟨inf, d, h1, h2, hk, _⟩ := tyOf_some (hT t _ ht)
  obtain ⟨fields, rfl, hfs⟩ := kind_struct hk
  obtain ⟨fd, hfd, he⟩ := (all0_some hfs).2 f _ hf
  unfold fieldOf at he
  split at he
  · rename_i i' d' e1 e2
    simp only [Option.some.injEq, Prod.mk.injEq] at he
    exact ⟨fields, fd, i', d', h2, by simpa using hfd, e1, e2, he.1, he.2.1, he.2.2⟩
  · simp at he

theorem pure_sim {ty : Nat → Option TyI} (hT : TyOk P ty) (I : Inv G w h) {o : Oper} {tm : Tm} {a : Act} (hk : opKind o.op = .pure) (hv : ∀ x ∈ o.op.operands, ∀ u, val tm x = some u → VR G w (a.eval x) u)
    {v : AV} (he : evPure ty tm o.op = some v) : ∃ V w', (execOp a.eval o).run P w = .ok (.value V) w' ∧ Inv G w' h ∧ Ext G w h G w' h ∧ VR G w' V v := by
  have same : ∀ {V : Value}, VR G w V v → (execOp a.eval o).run P w = .ok (.value V) w → ∃ V w', (execOp a.eval o).run P w = .ok (.value V) w' ∧ Inv G w' h ∧ Ext G w h G w' h ∧ VR G w' V v :=
    fun h1 h2 => ⟨_, w, h2, I, Ext.refl G w h, h1⟩
  have lift : ∀ {V : Value} {s : Sem Value}, s.run P w = .ok V w → (do pure (Next.value (← s)) : Sem Next).run P w = .ok (.value V) w := by
    intro V s hs
    simp only [Sem.run_bind, hs, Result.andThen_ok, Sem.run_pure]
  unfold execOp at *
  cases ho : o.op <;> rw [ho] at hk hv he <;> simp only [evPure, reduceCtorEq] at he <;> simp only [ho] at *
  case move x => exact same (hv x (by simp [Op.operands]) v he) rfl
  case assign x => exact same (hv x (by simp [Op.operands]) v he) rfl
  case pick c x y =>
    split at he
    · rename_i t hc
      have hcv := hv c (by simp [Op.operands]) _ hc
      generalize a.eval c = zc at *
      cases hcv
      cases t with
      | true => exact same (hv x (by simp [Op.operands]) v he) (by simp [asBool])
      | false => exact same (hv y (by simp [Op.operands]) v he) (by simp [asBool])
    · simp at he
  case build t parts =>
    split at he
    · rename_i fs sz byt z ag ef ht
      split at he
      · rename_i vs hvs
        obtain ⟨cs, hcs, rfl⟩ := Option.map_eq_some_iff.1 he
        have hV := allVals_VRs (G := G) (w := w) (ρ := a.eval) hvs fun x hx u hu => hv x (by simpa [Op.operands] using hx) u hu
        obtain ⟨C, h1, h2⟩ := build_sim hT ht hV hcs
        refine same h2 (lift ?_)
        have e : (parts.map fun (i, x) => (i, a.eval x)) = (parts.toList.map fun x => (x.1, a.eval x.2)).toArray := by apply Array.ext'; simp
        rw [e]
        exact h1
      · simp at he
    · simp at he
  case buildSlice t len parts =>
    split at he
    · rename_i e s1 b1 z1 a1 f1 ht
      split at he
      · rename_i k sz byt z ag ef hte
        split at he
        · rename_i vs hvs
          cases hc : (denseFrom 0 parts.toList && (Nat.beq vs.length len && (sizesAre sz vs && (Nat.blt 0 sz && (Nat.beq z.cells.length sz && Nat.ble (len * sz) 16777216))))) with
          | false => rw [hc] at he; simp at he
          | true =>
            rw [hc] at he
            simp only [cond_true, Option.some.injEq] at he
            subst he
            simp only [Bool.and_eq_true] at hc
            obtain ⟨c1, c2, c3, c4, c5, c6⟩ := hc
            have hV := allVals_VRs (G := G) (w := w) (ρ := a.eval) hvs fun x hx u hu => hv x (by simpa [Op.operands] using hx) u hu
            obtain ⟨V, w', h1, h2, h3, h4⟩ := buildSlice_sim hT I ht hte hV c1 (beq_nat.1 c2) c3 (blt_nat.1 c4) (beq_nat.1 c5) (Nat.le_of_ble_eq_true c6)
            refine ⟨V, w', ?_, h2, h3, h4⟩
            have e : (parts.map fun (i, x) => (i, a.eval x)) = (parts.toList.map fun x => (x.1, a.eval x.2)).toArray := by apply Array.ext'; simp
            rw [e]
            simp only [Sem.run_bind, h1, Result.andThen_ok, Sem.run_pure]
        · simp at he
      · simp at he
    · simp at he
  case nilCheck x =>
    split at he
    · rename_i p hx
      simp only [Option.some.injEq] at he
      subst he
      have := hv x (by simp [Op.operands]) _ hx
      generalize a.eval x = z at *
      cases this
      exact same (.ptr _ _ _ (by assumption)) rfl
    · rename_i cs hx
      simp only [Option.some.injEq] at he
      subst he
      have := hv x (by simp [Op.operands]) _ hx
      generalize a.eval x = z at *
      cases this
      exact same (.vp _ _ _ _ (by assumption) (by assumption)) rfl
    · rename_i f c d hx
      simp only [Option.some.injEq] at he
      subst he
      have := hv x (by simp [Op.operands]) _ hx
      generalize a.eval x = z at *
      have hz := this
      cases this
      exact same hz rfl
    · simp at he
  case binOp op t x y u =>
    split at he
    · rename_i p q hp hq
      obtain ⟨V, h1, h2⟩ := evBin_sim hT (hv x (by simp [Op.operands]) _ hp) (hv y (by simp [Op.operands]) _ hq) he x y
      exact same h2 (lift h1)
    · simp at he
  case unOp op t x =>
    split at he
    · rename_i b hx
      simp only [Option.some.injEq] at he
      subst he
      have := hv x (by simp [Op.operands]) _ hx
      generalize a.eval x = z at *
      cases this
      exact same (.bool _) (by simp [Op.unary])
    · rename_i k q hx
      simp only [Option.some.injEq] at he
      subst he
      have := hv x (by simp [Op.operands]) _ hx
      generalize a.eval x = z at *
      cases this
      exact same (V := .int k (k.wrap (0 - q))) (by rw [wr_eq]; exact .int _ _) (by simp only [Op.unary, Op.intArith, Sem.run_bind, Sem.run_pure, Result.andThen_ok])
    · simp at he
  case convert s d x =>
    split at he
    · rename_i k1 s1 b1 z1 a1 f1 k2 s2 b2 z2 a2 f2 k3 q e1 e2 hx
      simp only [Option.some.injEq] at he
      subst he
      obtain ⟨_, d1, _, u1, kk1, _⟩ := tyOf_some (hT _ _ e1)
      obtain ⟨_, d2, _, u2, kk2, _⟩ := tyOf_some (hT _ _ e2)
      have := kind_int kk1
      subst this
      have := kind_int kk2
      subst this
      have := hv x (by simp [Op.operands]) _ hx
      generalize a.eval x = z at *
      cases this
      refine same (V := .int k2 (k2.wrap q)) (by rw [wr_eq]; exact .int _ _) (lift ?_)
      simp [convert, run_under u1, run_under u2, Conv.intToInt]
    · rename_i s1 b1 z1 a1 f1 s2 b2 z2 a2 f2 q e1 e2 hx
      simp only [Option.some.injEq] at he
      subst he
      obtain ⟨_, d1, _, u1, kk1, _⟩ := tyOf_some (hT _ _ e1)
      obtain ⟨_, d2, _, u2, kk2, _⟩ := tyOf_some (hT _ _ e2)
      have := kind_str kk1
      subst this
      have := kind_str kk2
      subst this
      have := hv x (by simp [Op.operands]) _ hx
      generalize a.eval x = z at *
      have hz := this
      cases this
      refine same hz (lift ?_)
      simp [convert, run_under u1, run_under u2]
    · rename_i s1 b1 z1 a1 f1 e s2 b2 z2 a2 f2 q e1 e2 hx
      split at he
      · rename_i s3 b3 z3 a3 f3 e3
        cases hle : Nat.ble q.length 140737488355328 with
        | false => rw [hle] at he; simp at he
        | true =>
        rw [hle] at he
        simp only [cond_true, Option.some.injEq] at he
        subst he
        obtain ⟨_, d1, _, u1, kk1, _⟩ := tyOf_some (hT _ _ e1)
        obtain ⟨_, d2, _, u2, kk2, _⟩ := tyOf_some (hT _ _ e2)
        obtain ⟨_, d3, _, u3, kk3, _⟩ := tyOf_some (hT _ _ e3)
        have := kind_slice kk2
        subst this
        have := kind_int kk3
        subst this
        have := hv x (by simp [Op.operands]) _ hx
        generalize a.eval x = z at *
        cases this
        rename_i S
        obtain ⟨V, w', g1, g2, g3, g4⟩ := strBytes_sim (P := P) I u1 u2 u3 S
        exact ⟨V, w', by simp only [Sem.run_bind, g1, Result.andThen_ok, Sem.run_pure], g2, g3, g4⟩
      · simp at he
    · rename_i e s1 b1 z1 a1 f1 s2 b2 z2 a2 f2 o els e1 e2 hx
      split at he
      · rename_i s3 b3 z3 a3 f3 e3
        obtain ⟨m, hm, rfl⟩ := Option.map_eq_some_iff.1 he
        obtain ⟨_, d1, _, u1, kk1, _⟩ := tyOf_some (hT _ _ e1)
        obtain ⟨_, d2, _, u2, kk2, _⟩ := tyOf_some (hT _ _ e2)
        obtain ⟨_, d3, _, u3, kk3, _⟩ := tyOf_some (hT _ _ e3)
        have := kind_slice kk1
        subst this
        have := kind_str kk2
        subst this
        have := kind_int kk3
        subst this
        have hV := hv x (by simp [Op.operands]) _ hx
        generalize a.eval x = z at *
        obtain ⟨S, g1, g2⟩ := bytesStr_sim (P := P) hV hm
        refine same (V := .string S) (by rw [← g2]; exact .str S) (lift ?_)
        have hz : ∃ A n c, z = .slice A n c := by cases hV <;> exact ⟨_, _, _, rfl⟩
        obtain ⟨A, n, c, rfl⟩ := hz
        cases A <;> simp [convert, run_under u1, run_under u2, run_under u3, g1]
      · simp at he
    · simp at he
  case makeInterface t x =>
    split at he
    · simp at he
    · rename_i i u hni ht hx
      simp only [Option.some.injEq] at he
      subst he
      obtain ⟨_, d1, _, u1, kk1, _⟩ := tyOf_some (hT _ _ ht)
      refine same (.iface t _ _ (hv x (by simp [Op.operands]) _ hx)) (lift ?_)
      unfold Instr.makeInterface
      simp only [Sem.run_bind, run_under u1, Result.andThen_ok]
      cases d1 <;> first
        | rfl
        | skip
      rename_i ms
      exfalso
      obtain ⟨kd, s1, b1, z1, a1, f1⟩ := i
      simp only [kindOf] at kk1
      subst kk1
      exact hni _ _ _ _ _ rfl
    · simp at he
  case makeFunc fn first captured =>
    split at he
    · rename_i f p q h1 h2
      simp only [Option.some.injEq] at he
      subst he
      have hp := allVals_VRs (G := G) (w := w) (ρ := a.eval) h1 fun x hx u hu => hv x (by simp [Op.operands] at hx ⊢; exact .inl hx) u hu
      have hq := allVals_VRs (G := G) (w := w) (ρ := a.eval) h2 fun x hx u hu => hv x (by simp [Op.operands] at hx ⊢; exact .inr hx) u hu
      refine same (V := .func (.func f) (first.map a.eval) (captured.map a.eval)) (.fn f _ _ p q (by have := hp.1; simpa using this) (by have := hq.1; simpa using this) (fun i u x hu hx => hp.2 i u x (by simpa using hu) hx) (fun i u x hu hx => hq.2 i u x (by simpa using hu) hx)) (lift rfl)
    · simp at he
  case fieldAddr s x f =>
    split at he
    · rename_i fs sz byt z ag ef ht
      split at he
      · rename_i off fsz fag hf
        obtain ⟨fields, fd, inf, d, u1, hfd, e1, e2, e3, e4, e5⟩ := field_some hT ht hf
        cases hz : Nat.beq fsz 0 with
        | true => rw [hz] at he; simp at he
        | false =>
          rw [hz] at he
          simp only [cond_false] at he
          have hnz : ¬ inf.size = 0 := by rw [e4]; intro e; rw [e] at hz; simp at hz
          have hrun : ∀ (b q : Nat), (Instr.fieldAt s (.pointer (some ⟨b, q, none⟩)) f).run P w = .ok (.pointer (some ⟨b, q + off, none⟩)) w := by
            intro b q
            unfold Instr.fieldAt
            simp only [Sem.run_bind, run_under u1, Result.andThen_ok, hfd, Instr.sureAddr, Sem.run_pure, fieldPlace, run_sizeOf e1, hnz, if_false, addr_add, e3]
          split at he
          · rename_i id q hx
            simp only [Option.some.injEq] at he
            subst he
            have := hv x (by simp [Op.operands]) _ hx
            generalize a.eval x = z at *
            cases this
            exact same (.ptr _ _ _ (by assumption)) (lift (hrun _ _))
          · rename_i cs hx
            simp only [Option.some.injEq] at he
            subst he
            have := hv x (by simp [Op.operands]) _ hx
            generalize a.eval x = z at *
            cases this
            rename_i b q g h1 h2
            refine same (V := .pointer (some ⟨b, q + off, none⟩)) (.vp b (q + off) (cs.drop off) (fun j => g (off + j)) (fun j hj => ?_) (fun j y hy => ?_)) (lift (hrun _ _))
            · have := h1 (off + j) (by simp at hj; omega)
              rw [Nat.add_assoc]
              exact this
            · rw [List.getElem?_drop] at hy
              exact h2 _ y hy
          · simp at he
      · simp at he
    · simp at he
  case field t x f =>
    split at he
    · rename_i fs sz byt z ag ef cs ht hx
      split at he
      · rename_i off fsz fag hf
        obtain ⟨fields, fd, inf, d, u1, hfd, e1, e2, e3, e4, e5⟩ := field_some hT ht hf
        have := hv x (by simp [Op.operands]) _ hx
        generalize a.eval x = z at *
        cases this
        rename_i C hC h1
        obtain ⟨V, k1, k2⟩ := part_sim e1 e2 hC h1 (off := off) (v := v) (by rw [e5, e4]; exact he)
        refine same k2 (lift ?_)
        unfold Instr.field
        simp only [Sem.run_bind, run_under u1, Result.andThen_ok, hfd, asAgg, Sem.run_pure, e3, k1]
      · simp at he
    · simp at he
  case indexAddr t x i =>
    split at he
    · rename_i e sz byt z ag ef ht
      split at he
      · rename_i ie o' els ki n hte hx hi
        split at he
        · rename_i u hu
          cases hc : Nat.beq u.cells.length ie.sz with
          | false => rw [hc] at he; simp at he
          | true =>
            rw [hc] at he
            simp only [cond_true, Option.some.injEq] at he
            subst he
            have hsz := beq_nat.1 hc
            obtain ⟨_, d1, _, u1, kk1, _⟩ := tyOf_some (hT _ _ ht)
            have := kind_slice kk1
            subst this
            obtain ⟨inf, d2, g1, g2, _, g3, _⟩ := tyOf_some (hT _ _ hte)
            have hX := hv x (by simp [Op.operands]) _ hx
            have hI := hv i (by simp [Op.operands]) _ hi
            generalize a.eval x = z1 at *
            generalize a.eval i = z2 at *
            cases hI
            cases hX with
            | sl0 => simp at hu
            | sl b off len cap s _ _ f hl hcap hs h1 h2 ho2 =>
              have hn : n < len := by rw [← hl]; exact getElem?_lt hu
              have hus := hs u (List.mem_of_getElem? hu)
              refine same (V := .pointer (some ⟨b, off + n * s, none⟩)) (.vp b (off + n * s) u.cells (f n) (fun j hj => h1 n j hn (by omega)) (fun j y hy => h2 n j u y hu hy)) (lift ?_)
              unfold Instr.indexAt
              have hin : (0 : Int) ≤ Int.ofNat n ∧ (Int.ofNat n : Int) < ((len : Nat) : Int) := ⟨Int.natCast_nonneg _, by simp only [Int.ofNat_eq_natCast]; omega⟩
              simp only [Sem.run_bind, asIntOf, Sem.run_pure, Result.andThen_ok, run_under u1]
              rw [if_pos hin]
              have e3 : inf.size = s := by omega
              simp only [Sem.run_bind, run_sizeOf g1, Result.andThen_ok, Sem.run_pure, addr_add, e3]
              rfl
        · simp at he
      · simp at he
    · simp at he
  case index t x i =>
    split at he
    · rename_i sz byt z ag ef ht
      split at he
      · rename_i s ki n hx hi
        split at he
        · rename_i b hb
          simp only [Option.some.injEq] at he
          subst he
          obtain ⟨_, d1, _, u1, kk1, _⟩ := tyOf_some (hT _ _ ht)
          have := kind_str kk1
          subst this
          have hX := hv x (by simp [Op.operands]) _ hx
          have hI := hv i (by simp [Op.operands]) _ hi
          generalize a.eval x = z1 at *
          generalize a.eval i = z2 at *
          cases hI
          cases hX
          rename_i s
          have hn := getElem?_lt hb
          rw [bytesOf_length] at hn
          have hbe : b = (s[n]'hn).toNat := by
            unfold bytesOf at hb
            rw [List.getElem?_map] at hb
            obtain ⟨u, hu, rfl⟩ := Option.map_eq_some_iff.1 hb
            have : s.data.toList[n]? = some s[n] := by
              rw [List.getElem?_eq_getElem (by simpa using hn)]
              rfl
            rw [this] at hu
            simp only [Option.some.injEq] at hu
            rw [hu]
          refine same (V := .int .u8 (Int.ofNat b)) (.int _ _) (lift ?_)
          rw [run_index_string w t s ki (Int.ofNat n) u1, dif_pos ⟨Int.natCast_nonneg _, by simp only [Int.ofNat_eq_natCast]; omega⟩, hbe]
          rfl
        · simp at he
      · simp at he
    · simp at he
  case extract x i =>
    split at he
    · rename_i vs hx
      have hX := hv x (by simp [Op.operands]) _ hx
      generalize a.eval x = z1 at *
      cases hX
      rename_i C hC h1
      have hl := getElem?_lt he
      rw [← hC] at hl
      refine same (V := C[i]) (h1 i _ v (Array.getElem?_eq_getElem hl) he) (lift ?_)
      unfold Instr.extract
      simp [Array.getElem?_eq_getElem hl]
    · simp at he
  case slice t x lo hi mx =>
    split at he
    · rename_i i u l0 h0 m0 ht hx hl hh hm
      obtain ⟨inf, d1, _, u1, kk1, _⟩ := tyOf_some (hT _ _ ht)
      have hX := hv x (by simp [Op.operands]) _ hx
      split at he
      · rename_i s l hq m k1 e3 e4 e5
        rw [k1] at kk1
        have := kind_str kk1
        subst this
        have q1 := natOf_VR hl e3 fun y hy u hu => hv y (by simp [Op.operands] at hy ⊢; simp [hy]) u hu
        have q2 := natOf_VR hh e4 fun y hy u hu => hv y (by simp [Op.operands] at hy ⊢; simp [hy]) u hu
        have q3 := natOf_VR hm e5 fun y hy u hu => hv y (by simp [Op.operands] at hy ⊢; simp [hy]) u hu
        have hX2 := hX
        generalize hz1 : a.eval x = z1 at hX2
        cases hX2
        rename_i s'
        cases m with
        | some m => simp [evSlice] at he
        | none =>
          obtain ⟨V, k1, k2⟩ := slice_str_sim (P := P) (G := G) (w := w) u1 he
          rw [← hz1]
          exact same k2 (lift (by rw [q1, q2, q3, hz1]; exact k1))
      · rename_i e o' els l hq m k1 e3 e4 e5
        rw [k1] at kk1
        have := kind_slice kk1
        subst this
        have q1 := natOf_VR hl e3 fun y hy u hu => hv y (by simp [Op.operands] at hy ⊢; simp [hy]) u hu
        have q2 := natOf_VR hh e4 fun y hy u hu => hv y (by simp [Op.operands] at hy ⊢; simp [hy]) u hu
        have q3 := natOf_VR hm e5 fun y hy u hu => hv y (by simp [Op.operands] at hy ⊢; simp [hy]) u hu
        split at he
        · rename_i ie hte
          obtain ⟨inf2, d2, g1, g2, _, g3, _⟩ := tyOf_some (hT _ _ hte)
          cases hc : sizesAre ie.sz els with
          | false => rw [hc] at he; simp at he
          | true =>
            rw [hc] at he
            simp only [cond_true] at he
            obtain ⟨V, k1, k2⟩ := slice_sl_sim u1 g1 hX (by rw [← g3]; exact hc) he
            exact same k2 (lift (by rw [q1, q2, q3]; exact k1))
        · simp at he
      · simp at he
    · simp at he
end

end Go.Ev
