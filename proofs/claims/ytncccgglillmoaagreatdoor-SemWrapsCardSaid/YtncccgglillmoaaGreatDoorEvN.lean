/- Each operation of the abstract machine is the model's: pieces, elements, fields. -/
import Derived.Test.YtncccgglillmoaaGreatDoorEvJ
import Derived.Lib.ConvBytes
import Derived.Laws.BytesString
set_option autoImplicit false
set_option linter.unusedSectionVars false
set_option linter.unusedVariables false
set_option linter.unusedSimpArgs false
namespace Go.Ev
variable [Inhabited KA0] [MT]

section
variable {P : Program} {G : Gh} {w : World} {h : H}

def iv (n : Nat) : Value := .int .i64 (Int.ofNat n)

theorem natOf_VR {tm : Tm} {ρ : Operand → Value} {x : Option Operand} {a : Option AV} {r : Option Nat} (hx : optVal tm x = some a) (hn : natOf a = some r) (hv : ∀ y ∈ x.toArray, ∀ u, val tm y = some u → VR G w (ρ y) u) : x.map ρ = r.map iv := by
  cases x with
  | none =>
    simp only [optVal, Option.some.injEq] at hx
    subst hx
    simp only [natOf, Option.some.injEq] at hn
    subst hn
    rfl
  | some y =>
    simp only [optVal] at hx
    obtain ⟨u, hu, rfl⟩ := Option.map_eq_some_iff.1 hx
    unfold natOf at hn
    split at hn
    · rename_i e; cases e
    · rename_i n e
      simp only [Option.some.injEq] at e hn
      subst e; subst hn
      have := hv y (by simp) _ hu
      simp only [Option.map_some]
      generalize ρ y = z at this
      cases this
      rfl
    · simp at hn

theorem bounds_none {isS : Bool} {len cap : Nat} {lo hi : Option Nat} (h1 : lo.getD 0 ≤ hi.getD len) (h2 : hi.getD len ≤ cap) :
    (Instr.sliceBounds isS len cap (lo.map iv) (hi.map iv) none).run P w = .ok (lo.getD 0, hi.getD len, cap) w := by
  cases lo <;> cases hi <;> simp only [Option.map_none, Option.map_some, Option.getD_none, Option.getD_some, iv] at * <;>
    simp [Instr.sliceBounds, run_sliceBound, *]
theorem bounds_some {isS : Bool} {len cap h m : Nat} {lo : Option Nat} (h1 : lo.getD 0 ≤ h) (h2 : h ≤ m) (h3 : m ≤ cap) :
    (Instr.sliceBounds isS len cap (lo.map iv) (some (iv h)) (some (iv m))).run P w = .ok (lo.getD 0, h, m) w := by
  cases lo <;> simp only [Option.map_none, Option.map_some, Option.getD_none, Option.getD_some, iv] at * <;>
    simp [Instr.sliceBounds, run_sliceBound, *]

theorem slice_str_sim {t : Nat} (hd : P.underlying t = some .string) {s : ByteArray} {lo hi : Option Nat} {v : AV} (hv : evSlice (.str (bytesOf s)) lo hi none = some v) :
    ∃ V, (Instr.sliceAt t (.string s) (lo.map iv) (hi.map iv) none).run P w = .ok V w ∧ VR G w V v := by
  unfold evSlice at hv
  simp only at hv
  cases hc : (Nat.ble (lo.getD 0) (hi.getD (bytesOf s).length) && Nat.ble (hi.getD (bytesOf s).length) (bytesOf s).length) with
  | false => rw [hc] at hv; simp at hv
  | true =>
    rw [hc] at hv
    simp only [cond_true, Option.some.injEq] at hv
    simp only [Bool.and_eq_true] at hc
    have h1 := Nat.le_of_ble_eq_true hc.1
    have h2 := Nat.le_of_ble_eq_true hc.2
    rw [bytesOf_length] at h1 h2 hv
    have hb := bounds_none (P := P) (w := w) (isS := false) (lo := lo) (hi := hi) (len := s.size) (cap := s.size) h1 h2
    refine ⟨.string (s.extract (lo.getD 0) (hi.getD s.size)), ?_, ?_⟩
    · rw [run_sliceAt_string w t _ _ _ _ hd]
      unfold Instr.slice
      simp only [Sem.run_bind, run_under hd, Result.andThen_ok, hb, Option.isSome_none, Bool.false_eq_true, if_false, Sem.run_pure]
    · subst hv
      have : (List.take (hi.getD s.size - lo.getD 0) (List.drop (lo.getD 0) (bytesOf s))) = bytesOf (s.extract (lo.getD 0) (hi.getD s.size)) := by
        unfold bytesOf
        rw [Lib.extract_data, List.map_take, List.map_drop]
      rw [this]
      exact .str _

theorem slice_sl_sim {t e : Nat} {ie : TypeInfo} (hd : P.underlying t = some (.slice e)) (hi : P.info? e = some ie) {A : Value} {o : Own} {els : List AV} (hA : VR G w A (.sl o els)) (hs : sizesAre ie.size els = true)
    {lo hh mx : Option Nat} {v : AV} (hv : evSlice (.sl o els) lo hh mx = some v) :
    ∃ V, (Instr.sliceAt t A (lo.map iv) (hh.map iv) (mx.map iv)).run P w = .ok V w ∧ VR G w V v := by
  have hrun : ∀ (a : Option Addr) (len cap l h m : Nat), (Instr.sliceBounds true len cap (lo.map iv) (hh.map iv) (mx.map iv)).run P w = .ok (l, h, m) w →
      (Instr.sliceAt t (.slice a len cap) (lo.map iv) (hh.map iv) (mx.map iv)).run P w = .ok (.slice (if m = l then a else a.map (·.add (l * ie.size))) (h - l) (m - l)) w := by
    intro a len cap l h m hb
    have e1 : (Instr.sliceAt t (.slice a len cap) (lo.map iv) (hh.map iv) (mx.map iv)).run P w = (Instr.slice t (.slice a len cap) (lo.map iv) (hh.map iv) (mx.map iv)).run P w := by
      simp [Instr.sliceAt, run_under hd]
    rw [e1]
    unfold Instr.slice
    simp only [Sem.run_bind, run_under hd, Result.andThen_ok, hb, run_sizeOf hi, Sem.run_pure]
  -- the piece, wherever its bounds lie
  have piece : ∀ (len cap l h m : Nat) (a : Option Addr) (o' : Own), A = .slice a len cap → els.length = len → l ≤ h → h ≤ len → h ≤ m → m ≤ cap →
      OwnR G o' (.slice (if m = l then a else a.map (·.add (l * ie.size))) (h - l) (m - l)) (h - l) (m - l) →
      VR G w (.slice (if m = l then a else a.map (·.add (l * ie.size))) (h - l) (m - l)) (.sl o' ((els.drop l).take (h - l))) := by
    intro len cap l h m a o' hAe hlen hlh hhl hhm hmc ho'
    subst hAe
    cases hA with
    | sl0 _ _ o hn ho =>
      have e1 : h = 0 := by simp at hlen; omega
      have e2 : l = 0 := by omega
      subst e1; subst e2
      simp only [Nat.sub_self, List.take_zero] at ho' ⊢
      refine .sl0 _ _ _ (fun hz => ?_) ho'
      cases a with
      | none => have := hn rfl; omega
      | some a => split at hz <;> simp at hz
    | sl b off _ _ s _ _ f hl2 hc2 hs2 h1 h2 ho2 =>
      have hlen' : ((els.drop l).take (h - l)).length = h - l := by simp; omega
      by_cases hml : m = l
      · rw [if_pos hml] at ho' ⊢
        have e1 : h - l = 0 := by omega
        have e2 : m - l = 0 := by omega
        rw [e1, e2] at ho' ⊢
        simp only [List.take_zero]
        exact .sl b off 0 0 0 o' [] (fun _ _ => undef) rfl (Nat.le_refl _) (fun x hx => by simp at hx) (fun i j hi => absurd hi (by omega)) (fun i j x y hx => by simp at hx) ho'
      · rw [if_neg hml] at ho' ⊢
        simp only [Option.map_some, addr_add] at ho' ⊢
        have hss : ∀ x ∈ els, x.cells.length = ie.size := sizesAre_spec hs
        by_cases hz : els = []
        · subst hz
          have e1 : h - l = 0 := by simp at hlen; omega
          rw [e1] at ho' ⊢
          simp only [List.take_zero]
          exact .sl b _ 0 _ 0 o' [] (fun _ _ => undef) rfl (Nat.zero_le _) (fun x hx => by simp at hx) (fun i j hi => absurd hi (by omega)) (fun i j x y hx => by simp at hx) ho'
        · obtain ⟨x0, hx0⟩ := List.exists_mem_of_ne_nil els hz
          have hse : s = ie.size := by rw [← hs2 x0 hx0, hss x0 hx0]
          subst hse
          refine .sl b _ (h - l) (m - l) _ o' _ (fun i j => f (l + i) j) hlen' (by omega) (fun x hx => hs2 x (List.mem_of_mem_drop (List.mem_of_mem_take hx))) (fun i j hi hj => ?_) (fun i j x y hx hy => ?_) ho'
          · have := h1 (l + i) j (by omega) hj
            rw [Nat.add_mul] at this
            rw [show off + l * ie.size + i * ie.size + j = off + (l * ie.size + i * ie.size) + j by omega]
            exact this
          · have hi := getElem?_lt hx
            rw [hlen'] at hi
            rw [List.getElem?_take_of_lt hi, List.getElem?_drop] at hx
            exact h2 (l + i) j x y hx hy
  unfold evSlice at hv
  simp only at hv
  -- the slice's own shape
  obtain ⟨a, len, cap, hAe, hlen, hcap, how⟩ : ∃ a len cap, A = .slice a len cap ∧ els.length = len ∧ len ≤ cap ∧ OwnR G o (.slice a len cap) len cap := by
    cases hA with
    | sl0 A cap o hn ho => exact ⟨A, 0, cap, rfl, rfl, Nat.zero_le _, ho⟩
    | sl b off len cap s o els f hl2 hc2 hs2 h1 h2 ho2 => exact ⟨_, len, cap, rfl, hl2, hc2, ho2⟩
  cases mx with
  | some m =>
    simp only at hv
    cases hh with
    | none => simp at hv
    | some q =>
      simp only [Option.getD_some] at hv
      cases hc : (Nat.ble (lo.getD 0) q && (Nat.ble q m && Nat.ble m els.length)) with
      | false => rw [hc] at hv; simp at hv
      | true =>
        rw [hc] at hv
        simp only [cond_true, Option.some.injEq] at hv
        simp only [Bool.and_eq_true] at hc
        have c1 := Nat.le_of_ble_eq_true hc.1
        have c2 := Nat.le_of_ble_eq_true hc.2.1
        have c3 := Nat.le_of_ble_eq_true hc.2.2
        subst hv
        refine ⟨_, by rw [hAe]; exact hrun a len cap _ _ _ (bounds_some c1 c2 (by omega)), ?_⟩
        refine piece len cap _ _ _ a _ hAe hlen c1 (by omega) c2 (by omega) ?_
        cases hqm : Nat.beq q m with
        | true =>
          simp only [cond_true, OwnR]
          have := beq_nat.1 hqm
          omega
        | false => simp only [cond_false]; trivial
  | none =>
    simp only at hv
    cases hc : (Nat.ble (lo.getD 0) (hh.getD els.length) && Nat.ble (hh.getD els.length) els.length) with
    | false => rw [hc] at hv; simp at hv
    | true =>
      rw [hc] at hv
      simp only [cond_true, Option.some.injEq] at hv
      simp only [Bool.and_eq_true] at hc
      have c1 := Nat.le_of_ble_eq_true hc.1
      have c2 := Nat.le_of_ble_eq_true hc.2
      subst hv
      rw [hlen] at c1 c2 ⊢
      refine ⟨_, by rw [hAe]; exact hrun a len cap _ _ _ (bounds_none c1 (by omega)), ?_⟩
      refine piece len cap _ _ _ a _ hAe hlen c1 c2 (by omega) (Nat.le_refl _) ?_
      cases hq : Nat.beq (hh.getD len) len with
      | false => simp only [cond_false]; trivial
      | true =>
        have hql := beq_nat.1 hq
        simp only [cond_true]
        cases o with
        | no => trivial
        | full =>
          simp only [OwnR] at how ⊢
          omega
        | ch id =>
          simp only
          cases hl0 : Nat.beq (lo.getD 0) 0 with
          | false => simp only [cond_false]; trivial
          | true =>
            simp only [cond_true]
            have := beq_nat.1 hl0
            rw [this, hql]
            have e : (if cap = 0 then a else a.map (·.add (0 * ie.size))) = a := by
              split
              · rfl
              · cases a <;> simp [Addr.add]
            rw [e]
            exact how
end

/-! ### Bytes and strings -/
section
variable {P : Program} {G : Gh} {w : World} {h : H}

/-- All of a row, once more. -/
theorem slice_rs_sim {t e : Nat} {ie : TypeInfo} (hd : P.underlying t = some (.slice e)) (hi : P.info? e = some ie) {id len b cap : Nat} {own : Bool} (hcap : len ≤ cap) (hr : RowR G id len b fun c => own = true → c = cap)
    {lo hh mx : Option Nat} (h1 : lo.getD 0 = 0) (h2 : hh.getD len = len) (h3 : mx.getD len = len) (h4 : mx.isNone = true ∨ hh.isSome = true) :
    ∃ V, (Instr.sliceAt t (.slice (some ⟨b, 0, none⟩) len cap) (lo.map iv) (hh.map iv) (mx.map iv)).run P w = .ok V w ∧ VR G w V (.rs id len (own && mx.isNone)) := by
  have hrun : ∀ (a : Option Addr) (len cap l h m : Nat), (Instr.sliceBounds true len cap (lo.map iv) (hh.map iv) (mx.map iv)).run P w = .ok (l, h, m) w →
      (Instr.sliceAt t (.slice a len cap) (lo.map iv) (hh.map iv) (mx.map iv)).run P w = .ok (.slice (if m = l then a else a.map (·.add (l * ie.size))) (h - l) (m - l)) w := by
    intro a len cap l h m hb
    have e1 : (Instr.sliceAt t (.slice a len cap) (lo.map iv) (hh.map iv) (mx.map iv)).run P w = (Instr.slice t (.slice a len cap) (lo.map iv) (hh.map iv) (mx.map iv)).run P w := by
      simp [Instr.sliceAt, run_under hd]
    rw [e1]
    unfold Instr.slice
    simp only [Sem.run_bind, run_under hd, Result.andThen_ok, hb, run_sizeOf hi, Sem.run_pure]
  have same : ∀ m : Nat, (Value.slice (if m = 0 then some ⟨b, 0, none⟩ else (some ⟨b, 0, none⟩ : Option Addr).map (·.add (0 * ie.size))) (len - 0) (m - 0)) = .slice (some ⟨b, 0, none⟩) len m := by
    intro m
    split <;> simp [addr_add]
  cases mx with
  | none =>
    have hb := bounds_none (P := P) (w := w) (isS := true) (len := len) (cap := cap) (lo := lo) (hi := hh) (by rw [h1]; exact Nat.zero_le _) (by rw [h2]; exact hcap)
    rw [h1, h2] at hb
    refine ⟨_, hrun _ _ _ 0 len cap hb, ?_⟩
    rw [same]
    simp only [Option.isNone_none, Bool.and_true]
    exact .rs id len b cap own hcap hr
  | some m =>
    simp only [Option.getD_some] at h3
    subst h3
    cases hh with
    | none => simp at h4
    | some k =>
      simp only [Option.getD_some] at h2
      subst h2
      have hb := bounds_some (P := P) (w := w) (isS := true) (len := k) (cap := cap) (h := k) (m := k) (lo := lo) (by rw [h1]; exact Nat.zero_le _) (Nat.le_refl _) hcap
      rw [h1] at hb
      refine ⟨_, hrun _ _ _ 0 k k hb, ?_⟩
      rw [same]
      simp only [Option.isNone_some, Bool.and_false]
      exact .rs id k b k false (Nat.le_refl _) (hr.imp fun c _ e => by cases e)
/-- A world with more behind: nothing else. -/
theorem grow_ext (G : Gh) (h : H) {w w' : World} (h1 : w'.os = w.os) (h2 : w'.tape = w.tape) (h3 : w'.output = w.output) (h4 : w.heap.size ≤ w'.heap.size) (h5 : ∀ j, j < w.heap.size → w'.heap[j]? = w.heap[j]?) : Ext G w h G w' h where
  os := h1
  tape := h2
  output := h3
  size := h4
  base := rfl
  still := fun b hb hf => ⟨h5 b hb, hf⟩
  part := fun b k q v hf ho hv => ⟨(World.cell?_of_block (w := w) (a := ⟨b, q, none⟩) (h5 b (World.block_lt_of_cell? w ⟨b, q, none⟩ hv))).trans hv, .inr ⟨k, hf, ho⟩⟩
  ρ := fun _ _ h => h
  cv := fun _ n v h => ⟨n, v, h, Nat.le_refl _, fun _ => rfl⟩
  nx := Nat.le_refl _
  unm := fun _ _ a b => ⟨rfl, a, b⟩
  own := fun b hb ho => ⟨h5 b hb, rfl, ho⟩
theorem grow_inv (I : Inv G w h) {w' : World} (h1 : w'.os = w.os) (h2 : w'.tape = w.tape) (h3 : w'.output = w.output) (h4 : w.heap.size ≤ w'.heap.size) (h5 : ∀ j, j < w.heap.size → w'.heap[j]? = w.heap[j]?) : Inv G w' h where
  wf := I.wf
  frb := fun b k hf => ⟨(I.frb b k hf).1, Nat.lt_of_lt_of_le (I.frb b k hf).2 h4⟩
  bas := Nat.le_trans I.bas h4
  obj := fun id b hr => by
    obtain ⟨a1, a2, a3, a4⟩ := I.obj id b hr
    refine ⟨a1, a2, a3, ?_⟩
    rw [h5 b (I.frb b 0 a2).2]
    exact a4.mono (grow_ext G h h1 h2 h3 h4 h5)
  chn := fun id n v hc => by
    obtain ⟨a1, g, e, size, xs, cap, k, b2, b3, b4, b5⟩ := I.chn id n v hc
    refine ⟨a1, g, e, size, xs, cap, k, b2.mono (grow_ext G h h1 h2 h3 h4 h5), b3, b4.kept (row := none) ⟨h1, h2, h3, h4, fun k hk _ => h5 k hk⟩ (.inr ?_), b5⟩
    subst b3
    simp [Value.ownBlock]
  ka := I.ka.mono (grow_ext G h h1 h2 h3 h4 h5)

theorem strBytes_sim (I : Inv G w h) {src dst e : Nat} {u : TypeDesc} (hs : P.underlying src = some u) (hd : P.underlying dst = some (.slice e)) (he : P.underlying e = some (.int .u8)) (s : ByteArray) :
    ∃ V w', (convert src dst (.string s)).run P w = .ok V w' ∧ Inv G w' h ∧ Ext G w h G w' h ∧ VR G w' V (.sl .no ((bytesOf s).map fun n => .int .u8 (Int.ofNat n))) := by
  have h5 : ∀ j, j < w.heap.size → (Lib.bytesWorld w e s).heap[j]? = w.heap[j]? := fun j hj => Lib.bytesWorld_at_old w e s j hj
  have h4 : w.heap.size ≤ (Lib.bytesWorld w e s).heap.size := by rw [Lib.bytesWorld_size]; omega
  have e1 : (Lib.bytesWorld w e s).os = w.os := by simp [Lib.bytesWorld, World.freeze, World.alloc, World.drew, -World.alloc_eq, -World.drew_eq]
  have e2 : (Lib.bytesWorld w e s).tape = w.tape := by simp [Lib.bytesWorld, World.freeze, World.alloc, World.drew, -World.alloc_eq, -World.drew_eq]
  have e3 : (Lib.bytesWorld w e s).output = w.output := by simp [Lib.bytesWorld, World.freeze, World.alloc, World.drew, -World.alloc_eq, -World.drew_eq]
  refine ⟨_, _, Lib.run_convert_string_bytes w src dst e s hs hd he, grow_inv I e1 e2 e3 h4 h5, grow_ext G h e1 e2 e3 h4 h5, ?_⟩
  have hf : G.fr w.heap.size = none := I.fresh.2.2
  refine .sl w.heap.size 0 s.size _ 1 .no _ (fun i _ => .int .u8 ((s.data.toList.getD i 0).toNat : Int)) (by simp [bytesOf_length]) (grownCap_ge ..) (fun x hx => ?_) (fun i j hi hj => ⟨?_, .inl hf⟩) (fun i j x y hx hy => ?_) trivial
  · obtain ⟨n, _, rfl⟩ := List.mem_map.1 hx
    rfl
  · obtain rfl : j = 0 := by omega
    have := Lib.bytesWorld_cell w e s i hi
    simpa using this
  · obtain ⟨n, hn, rfl⟩ : ∃ n, (bytesOf s)[i]? = some n ∧ x = .int .u8 (Int.ofNat n) := by
      rw [List.getElem?_map] at hx
      cases hb : (bytesOf s)[i]? with
      | none => rw [hb] at hx; simp at hx
      | some n => rw [hb] at hx; simp at hx; exact ⟨n, rfl, hx.symm⟩
    have hj : j = 0 ∧ y = .int .u8 (Int.ofNat n) := by
      cases j with
      | zero => simp [AV.cells] at hy; exact ⟨rfl, hy.symm⟩
      | succ j => simp [AV.cells] at hy
    obtain ⟨rfl, rfl⟩ := hj
    have : (s.data.toList.getD i 0).toNat = n := by
      unfold bytesOf at hn
      rw [List.getElem?_map] at hn
      cases hb : s.data.toList[i]? with
      | none => rw [hb] at hn; simp at hn
      | some c => rw [hb] at hn; simp at hn; rw [List.getD_eq_getElem?_getD, hb]; simpa using hn
    rw [this]
    exact .int _ _

theorem byteEls_some : ∀ {els : List AV} {m : List Nat}, byteEls els = some m → els = m.map (fun n => .int .u8 (Int.ofNat n)) ∧ ∀ n ∈ m, n < 256
  | [], m, h => by simp [byteEls] at h; subst h; simp
  | x :: l, m, h => by
    unfold byteEls at h
    split at h
    · simp_all
    · rename_i n l' hx
      split at h
      · simp at h
      · rename_i m' hm
        cases hb : Nat.blt n 256 with
        | false => rw [hb] at h; simp at h
        | true =>
          rw [hb] at h
          simp only [cond_true, Option.some.injEq] at h
          subst h
          simp only [List.cons.injEq] at hx
          obtain ⟨rfl, rfl⟩ := hx
          obtain ⟨h1, h2⟩ := byteEls_some hm
          refine ⟨by rw [h1]; rfl, fun k hk => ?_⟩
          rcases List.mem_cons.1 hk with rfl | hk
          · exact blt_nat.1 hb
          · exact h2 k hk
    · simp at h
theorem bytesOf_fold : ∀ (ns : List Int) (r : ByteArray), bytesOf (ns.foldl (fun r n => r.push (UInt8.ofNat n.toNat)) r) = bytesOf r ++ ns.map fun n => (UInt8.ofNat n.toNat).toNat
  | [], r => by simp
  | n :: ns, r => by
    rw [List.foldl_cons, bytesOf_fold ns]
    simp [bytesOf, ByteArray.push]

theorem bytesStr_sim {V : Value} {o : Own} {els : List AV} (hV : VR G w V (.sl o els)) {m : List Nat} (hm : byteEls els = some m) :
    ∃ S, (Conv.bytesToString V).run P w = .ok (.string S) w ∧ bytesOf S = m := by
  obtain ⟨h1, h2⟩ := byteEls_some hm
  cases hV with
  | sl0 A _ _ _ _ =>
    cases m with
    | nil => cases A with
      | none => exact ⟨.empty, by simp [Conv.bytesToString], rfl⟩
      | some a => exact ⟨.empty, by simp [Conv.bytesToString, loadCells, loadCellsFrom], rfl⟩
    | cons a m => simp at h1
  | sl b off len cap s _ _ f hl hc hs hst hvr ho =>
    refine ⟨_, run_bytesToString w ⟨b, off, none⟩ len cap (m.map Int.ofNat) ?_, ?_⟩
    · have hload := run_loadCells (P := P) (w := w) ⟨b, off, none⟩ len (fun j => f j 0) (fun j hj => by
        rw [addr_add]
        have hj' : j < els.length := by omega
        have h1s : s = 1 := by
          have := hs els[j] (List.getElem_mem hj')
          subst h1
          simp [AV.cells] at this
          exact this.symm
        subst h1s
        have := (hst j 0 hj (by omega)).1
        simpa using this)
      rw [hload]
      congr 2
      apply List.ext_getElem?
      intro j
      by_cases hj : j < len
      · have hj' : j < els.length := by omega
        have hjm : j < m.length := by rw [h1] at hj'; simpa using hj'
        have hx : els[j]? = some (.int .u8 (Int.ofNat m[j])) := by rw [h1]; simp [hjm]
        have := hvr j 0 _ (.int .u8 (Int.ofNat m[j])) hx rfl
        have hfj : f j 0 = .int .u8 (Int.ofNat m[j]) := by
          generalize f j 0 = z at this
          cases this
          rfl
        simp [hj, hjm, hfj]
      · have : ¬ j < m.length := by rw [h1] at hl; simp at hl; omega
        simp [hj, this]
    · rw [bytesOf_fold]
      have : (m.map Int.ofNat).map (fun n => (UInt8.ofNat n.toNat).toNat) = m := by
        rw [List.map_map]
        conv => rhs; rw [← List.map_id m]
        refine List.map_congr_left fun n hn => ?_
        have := h2 n hn
        simp
        omega
      rw [this]
      rfl
end

end Go.Ev
