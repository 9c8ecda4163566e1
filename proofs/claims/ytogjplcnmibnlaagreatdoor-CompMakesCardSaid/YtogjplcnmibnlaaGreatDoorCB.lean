/- A row that is made with room, and nothing in it yet: slices.Grow of nil. -/
import Derived.Test.YtogjplcnmibnlaaGreatDoorEwK
import Derived.Test.YtogjplcnmibnlaaGreatDoorEwE
import Derived.Lib.AppendZeros
import Derived.Test.YtogjplcnmibnlaaGreatDoorCEnv
import Derived.WalkKit
set_option autoImplicit false
set_option maxRecDepth 100000
set_option linter.unusedSimpArgs false
set_option linter.unusedVariables false
set_option linter.unusedSectionVars false
namespace Go.Ev
variable [Inhabited KA0] [MT]
theorem row0_chain {G : Gh} {w : World} {h : H} (I : Inv G w h) {id e s : Nat} (hg : h.t.get id = some (.row 0 e s [])) : Inv G w (h.put id (.chain 0 e s)) where
  wf := fun j o hj => by
    by_cases ej : j = id
    · subst ej; exact I.wf j _ hg
    · rw [show (h.put id (.chain 0 e s)).t.get j = h.t.get j from T.get_set_ne _ _ ej] at hj
      exact I.wf j o hj
  frb := I.frb
  bas := I.bas
  obj := fun j b hj => by
    obtain ⟨h1, h2, h3, h4⟩ := I.obj j b hj
    have ej : j ≠ id := by
      rintro rfl
      rw [hg] at h4
      exact h4.elim
    refine ⟨h1, h2, h3, ?_⟩
    rw [show (h.put id (.chain 0 e s)).t.get j = h.t.get j from T.get_set_ne _ _ ej]
    exact h4
  chn := fun j n v hj => by
    obtain ⟨h1, g, e', size, xs, cap, k, h2, h3, h4, h5, h6, h7⟩ := I.chn j n v hj
    by_cases ej : j = id
    · subst ej
      rw [hg] at h2
      rcases h2 with ⟨h2, _⟩ | ⟨cs, h2, rfl, _⟩
      · cases h2
      · simp only [Option.some.injEq, Obj.row.injEq] at h2
        obtain ⟨rfl, rfl, rfl, rfl⟩ := h2
        exact ⟨h1, g, e, s, xs, cap, 0, .inl ⟨T.get_set _ _ _, by simp⟩, h3, h4, h5, h6, h7⟩
    · exact ⟨h1, g, e', size, xs, cap, k, by rw [show (h.put id (.chain 0 e s)).t.get j = h.t.get j from T.get_set_ne _ _ ej]; exact h2, h3, h4, h5, h6, h7⟩
  ka := I.ka
theorem set_set {α : Type} (t : T α) (k : Nat) (a b : α) : ∀ j, ((t.set k a).set k b).get j = (t.set k b).get j := by
  intro j
  by_cases e : j = k
  · subst e; rw [T.get_set, T.get_set]
  · rw [T.get_set_ne _ _ e, T.get_set_ne _ _ e, T.get_set_ne _ _ e]
/-- Inv hangs on what the heap gives alone. -/
theorem Inv.same {G : Gh} {w : World} {h h' : H} (I : Inv G w h) (hn : h'.nx = h.nx) (hg : ∀ j, h'.t.get j = h.t.get j) : Inv G w h' where
  wf := fun j o hj => by rw [hn]; rw [hg] at hj; exact I.wf j o hj
  frb := I.frb
  bas := I.bas
  obj := fun j b hj => by rw [hn, hg]; exact I.obj j b hj
  chn := fun j n v hj => by rw [hn, hg]; exact I.chn j n v hj
  ka := I.ka
theorem Ext.same {G G' : Gh} {w w' : World} {h h1 h2 : H} (X : Ext G w h G' w' h1) (hn : h2.nx = h1.nx) (hg : ∀ j, h2.t.get j = h1.t.get j) : Ext G w h G' w' h2 where
  os := X.os
  tape := X.tape
  output := X.output
  size := X.size
  base := X.base
  still := X.still
  part := X.part
  ρ := X.ρ
  cv := X.cv
  nx := by rw [hn]; exact X.nx
  unm := fun j a b c => by rw [hg]; exact X.unm j a b c
  own := X.own
/-- A new block with room, as an empty row that may be appended to. -/
theorem new_room {G : Gh} {w : World} {h : H} (I : Inv G w h) {e s cap : Nat} {C : Array Value} (hs : 0 < s) (hm : cap ≤ maxLen) (hC : C.size = cap * s) :
    ∃ G', Inv G' (w.alloc (.cells C e)) (h.new (.chain 0 e s)) ∧ Ext G w h G' (w.alloc (.cells C e)) (h.new (.chain 0 e s)) ∧ VR G' (w.alloc (.cells C e)) (.slice (some ⟨w.heap.size, 0, none⟩) 0 cap) (.sl (.ch h.nx) []) := by
  obtain ⟨f1, f2, f3⟩ := I.fresh
  have A := addRow_R (new_inv I (.row 0 e s [])) h.nx (Nat.lt_succ_self _) f1 f2 (n := 0) (e := e) (s := s) (cap := cap) (C := C) (cs := []) (T.get_set _ _ _) hs (Nat.zero_le _) hm hC (by simpa using VRs.nil G w)
  have I1 := row0_chain A.inv (T.get_set _ _ _)
  have eg : ∀ j, (h.new (.chain 0 e s)).t.get j = ((h.new (.row 0 e s [])).put h.nx (.chain 0 e s)).t.get j := fun j => (set_set _ _ _ _ j).symm
  have I2 : Inv _ _ (h.new (.chain 0 e s)) := I1.same rfl eg
  have X0 := A.ext h (Nat.le_succ _) (fun j hj _ _ => by omega) (fun j hj => T.get_set_ne _ _ (by omega))
  have X1 : Ext G w h _ (w.alloc (.cells C e)) (h.new (.chain 0 e s)) :=
    ⟨X0.os, X0.tape, X0.output, X0.size, X0.base, X0.still, X0.part, X0.ρ, X0.cv, X0.nx, fun j a b c => ⟨T.get_set_ne _ _ (by omega), (X0.unm j a b c).2.1, (X0.unm j a b c).2.2⟩, X0.own⟩
  refine ⟨_, I2, X1, .sl0 _ cap _ (fun e => by cases e) ⟨0, _, by simp [Gh.addRow], Nat.le_refl _, fun _ => rfl⟩⟩
/-- What a run on the empty heap shows, it shows behind any heap. -/
theorem post_snap {G : Gh} {w : World} {h h1 : H} (I : Inv G w h) {n : Nat} {u v0 : AV} (hs : snapAV n h1 u = some v0) {e : Ending} {w' : World} (hp : Post (Gp G) w ⟨.e, 0⟩ u h1 e w') : Post G w h v0 h e w' := by
  obtain ⟨G1, V, rfl, hV, I1, X⟩ := hp
  have same : ∀ j, j < w.heap.size → w'.heap[j]? = w.heap[j]? := fun j hj => (X.own j hj rfl).1
  have new : ∀ b, w.heap.size ≤ b → G.fr b = none := fun b hb => by
    cases hf : G.fr b with
    | none => rfl
    | some k => exact absurd (I.frb b k hf).2 (by omega)
  refine ⟨G, V, rfl, snap_to I1 (fun b o x s => ⟨s.1, ?_⟩) (fun b id ho => ?_) n u v0 V hs hV, grow_inv I X.os X.tape X.output X.size same, grow_ext G _ X.os X.tape X.output X.size same⟩
  · by_cases hbl : b < w.heap.size
    · have := s.2
      rw [(X.own b hbl rfl).2.1] at this
      exact this
    · exact .inl (new b (by omega))
  · by_cases hbl : b < w.heap.size
    · rw [(X.own b hbl rfl).2.2] at ho
      cases ho
    · exact new b (by omega)
/-- slices.Grow of an empty slice without room. -/
def primGrow (e s byt : Nat) : List AV → H → Option (AV × H)
  | [.sl .full [], .int .i64 (.ofNat n)], h => bif Nat.beq n 0 then some (.sl .full [], h) else bif Nat.ble (n * byt) 140737488355328 then some (.sl (.ch h.nx) [], h.new (.chain 0 e s)) else none
  | _, _ => none
/-- append(x, make([]T, n)...), x empty and without room. -/
theorem run_append_zeros {P : Program} (w : World) (t tn ty e : TypeId) (i : TypeInfo) (z : Value) (k kn : IntKind) (ht : P.underlying t = some (.slice e)) (htn : P.underlying tn = some (.int kn)) (hi : P.info? e = some i) (hz : i.zero = some z)
    (A : Option Addr) (n : Nat) (h0 : 0 < n) (hs : 0 < i.size) (h63 : (n : Int) ≤ 9223372036854775807) (h48 : n * i.bytes ≤ 281474976710656) :
    (Builtin.append_ #[t, tn] ty #[.slice A 0 0, .int k n]).run P w =
      .ok (.slice (some ⟨w.heap.size, 0, none⟩) n (grownCap w n 0 e)) (w.drew.alloc (.cells (Builtin.zeroCells z.cells n ++ Builtin.zeroCells z.cells (grownCap w n 0 e - n)) e)) := by
  cases A with
  | none => exact Lib.run_append_nil_zeros w t tn ty e i z k kn ht htn hi hz n h0 hs h63 h48
  | some a =>
    have hn : n ≠ 0 := by omega
    have hw : IntKind.i64.wrap (n : Int) = n := by rw [IntKind.wrap_i64]; omega
    have h63' : ¬ (9223372036854775807 < (n : Int)) := by omega
    have h48' : ¬ (281474976710656 < Builtin.nextslicecap n 0 * i.bytes) := by rw [nextslicecap_zero h0]; omega
    have h48i : ¬ (281474976710656 < (n : Int) * (i.bytes : Int)) := by
      rw [← Int.natCast_mul]
      omega
    have hneg : ¬ ((n : Int) < 0) := by omega
    have hns : ¬ (n * i.size = 0) := Nat.mul_ne_zero hn (by omega)
    have hf : (Builtin.firstCells i.size 0 (.slice (some a) 0 0)).run P w.drew = .ok #[] w.drew := by simp [Builtin.firstCells, loadCells, loadCellsFrom]
    simp [Builtin.append_, run_underlying ht, run_underlying htn, sizeOf, typeInfo, zeroValue, hi, hz, asInt, asIntOf, hw, hn, hneg, hns, h63', h48', h48i, Question.forced, hf, newRow, grownCap]
end Go.Ev
/- slices.Grow, of nothing: its contract, and as a primitive. -/
namespace Go.Proofs.YtogjplcnmibnlaaGreatDoor.Env
open Go.RowKit Go.Ev

theorem strInfo : ∃ i, Tryz.prog.info? 9 = some i ∧ i.zero = some (.string ⟨#[]⟩) ∧ i.size = 1 ∧ i.bytes = 16 := ⟨_, rfl, rfl, rfl, rfl⟩
theorem grow0 (A : Option Addr) (w : World) : Calls Tryz.prog 127 #[.slice A 0 0, .int .i64 0] w fun e w' => e = .returned (.slice A 0 0) ∧ w' = w := by
  go_enter Tryz.func127, Tryz.ntmps127
  go_wp2
  go_ret
  exact ⟨rfl, rfl⟩
theorem growN (A : Option Addr) (n : Nat) (h0 : 0 < n) (hb : n * 16 ≤ 140737488355328) (w : World) : Calls Tryz.prog 127 #[.slice A 0 0, .int .i64 n] w fun e w' =>
    e = .returned (.slice (some ⟨w.heap.size, 0, none⟩) 0 (grownCap w n 0 9)) ∧ w' = w.drew.alloc (.cells (Builtin.zeroCells (Value.string ⟨#[]⟩).cells n ++ Builtin.zeroCells (Value.string ⟨#[]⟩).cells (grownCap w n 0 9 - n)) 9) := by
  obtain ⟨i, i1, i2, i3, i4⟩ := strInfo
  have hr := run_append_zeros (P := Tryz.prog) w 25 3 25 9 i (.string ⟨#[]⟩) .i64 .i64 Tryz.underlying25 Tryz.underlying3 i1 i2 A n h0 (by omega) (by omega) (by rw [i4]; omega)
  go_enter Tryz.func127, Tryz.ntmps127
  go_wp2_with (at_builtin; refine Lib.wpList_append_run _ rfl _ _ _ _ rfl _ _ rfl rfl _ _ hr ?_)
  go_ret
  exact ⟨rfl, rfl⟩
theorem pGrow_ok : PrimOk Tryz.prog 127 (primGrow 9 1 16) := by
  refine ⟨⟨Tryz.f127, Tryz.func127, by kernel_rfl, by kernel_rfl⟩, fun args h v h' he G w A I hA => ?_⟩
  unfold primGrow at he
  split at he
  · rename_i n
    obtain ⟨l⟩ := A
    obtain ⟨V0, l, rfl, r0, hA⟩ := hA.uncons
    obtain ⟨V1, l, rfl, r1, hA⟩ := hA.uncons
    have : l = [] := List.eq_nil_of_length_eq_zero hA.1
    subst this
    obtain ⟨B, rfl⟩ : ∃ B, V0 = .slice B 0 0 := by
      cases r0 with
      | sl0 A cap o hn ho => have : cap = 0 := ho; subst this; exact ⟨A, rfl⟩
      | sl b off len cap s o els f hl hc hs h1 h2 ho =>
        have e1 : len = 0 := by rw [← hl]; rfl
        have e2 : cap = len := ho
        subst e1; subst e2
        exact ⟨_, rfl⟩
    cases r1
    cases hz : Nat.beq n 0 with
    | true =>
      rw [hz] at he
      simp only [cond_true, Option.some.injEq, Prod.mk.injEq] at he
      obtain ⟨rfl, rfl⟩ := he
      have := beq_nat.1 hz
      subst this
      refine (grow0 B w).mono ?_
      rintro e w' ⟨rfl, rfl⟩
      exact ⟨G, _, rfl, r0, I, Ext.refl G w' h⟩
    | false =>
      rw [hz] at he
      simp only [cond_false] at he
      cases hb : Nat.ble (n * 16) 140737488355328 with
      | false => rw [hb] at he; simp at he
      | true =>
        rw [hb] at he
        simp only [cond_true, Option.some.injEq, Prod.mk.injEq] at he
        obtain ⟨rfl, rfl⟩ := he
        have hle := Nat.le_of_ble_eq_true hb
        have h0 : 0 < n := by
          rcases Nat.eq_zero_or_pos n with rfl | h
          · simp at hz
          · exact h
        refine (growN B n h0 hle w).mono ?_
        rintro e w' ⟨rfl, rfl⟩
        have I1 : Inv G w.drew h := grow_inv I rfl rfl rfl (Nat.le_refl _) fun _ _ => rfl
        have X1 : Ext G w h G w.drew h := grow_ext G h rfl rfl rfl (Nat.le_refl _) fun _ _ => rfl
        have hge := grownCap_ge w n 0 9
        obtain ⟨G', I2, X2, r⟩ := new_room I1 (e := 9) (s := 1) (cap := grownCap w n 0 9) (C := Builtin.zeroCells (Value.string ⟨#[]⟩).cells n ++ Builtin.zeroCells (Value.string ⟨#[]⟩).cells (grownCap w n 0 9 - n)) (by omega) (grownCap_le_maxLen w n 0 9 (by simp only [maxLen]; omega))
          (by simp only [Array.size_append, size_zeroCells, Value.cells, List.size_toArray, List.length_cons, List.length_nil]; omega)
        exact ⟨G', _, rfl, r, I2, X1.trans X2⟩
  · cases he
end Go.Proofs.YtogjplcnmibnlaaGreatDoor.Env
/- tree.Free as a primitive: the machine runs all but the sorting. -/
namespace Go.Proofs.YtogjplcnmibnlaaGreatDoor.Env
open Go.Ev

def toB (s : List Nat) : List UInt8 := s.map UInt8.ofNat
def ofB (b : List UInt8) : List Nat := b.map (·.toNat)
abbrev sortB (l : List (List UInt8)) : List (List UInt8) := l.mergeSort fun x y => decide (x ≤ y)
theorem nl_irr : ∀ a : List Nat, nLess a a = false
  | [] => rfl
  | a :: l => by simp only [nLess, nl_irr l, Bool.and_false, Bool.or_false]; exact Bool.eq_false_iff.2 fun h => by rw [Nat.blt_eq] at h; omega
theorem nl_tr : ∀ {a b c : List Nat}, nLess a b = true → nLess b c = true → nLess a c = true
  | _, [], _, h, _ => by cases ‹List Nat› <;> simp [nLess] at h
  | _, _ :: _, [], _, h => by simp [nLess] at h
  | [], _ :: _, _ :: _, _, _ => rfl
  | a :: x, b :: y, c :: z, h1, h2 => by
    simp only [nLess, Bool.or_eq_true, Bool.and_eq_true, Nat.blt_eq, Nat.beq_eq] at h1 h2 ⊢
    rcases h1 with h1 | ⟨e1, h1⟩ <;> rcases h2 with h2 | ⟨e2, h2⟩
    · exact .inl (by omega)
    · exact .inl (by omega)
    · exact .inl (by omega)
    · exact .inr ⟨by omega, nl_tr h1 h2⟩
theorem nl_as {a b : List Nat} (h : nLess a b = true) : nLess b a = false := by
  cases hb : nLess b a with
  | false => rfl
  | true => have := nl_tr h hb; rw [nl_irr] at this; cases this
theorem nl_tot : ∀ {a b : List Nat}, nLess a b = false → nLess b a = false → a = b
  | [], [], _, _ => rfl
  | [], _ :: _, h, _ => by simp [nLess] at h
  | _ :: _, [], _, h => by simp [nLess] at h
  | a :: x, b :: y, h1, h2 => by
    simp only [nLess, Bool.or_eq_false_iff, Bool.and_eq_false_iff] at h1 h2
    have e1 : ¬ a < b := fun h => by have := h1.1; rw [show Nat.blt a b = true from by rw [Nat.blt_eq]; exact h] at this; cases this
    have e2 : ¬ b < a := fun h => by have := h2.1; rw [show Nat.blt b a = true from by rw [Nat.blt_eq]; exact h] at this; cases this
    have e : a = b := by omega
    subst e
    have hb : Nat.beq a a = true := by rw [Nat.beq_eq]
    rcases h1.2 with h | h
    · rw [hb] at h; cases h
    · rcases h2.2 with k | k
      · rw [hb] at k; cases k
      · rw [nl_tot h k]
theorem ofB_toB {s : List Nat} (h : ∀ x ∈ s, x < 256) : ofB (toB s) = s := by
  unfold ofB toB
  rw [List.map_map]
  conv => rhs; rw [← List.map_id s]
  refine List.map_congr_left fun x hx => ?_
  have := h x hx
  simp [Function.comp, UInt8.toNat_ofNat', Nat.mod_eq_of_lt this]
theorem toB_ofB (b : List UInt8) : toB (ofB b) = b := by
  unfold ofB toB
  rw [List.map_map]
  conv => rhs; rw [← List.map_id b]
  exact List.map_congr_left fun x _ => by simp
theorem ofB_lt (b : List UInt8) : ∀ x ∈ ofB b, x < 256 := by
  intro x hx
  obtain ⟨y, _, rfl⟩ := List.mem_map.1 hx
  exact y.toNat_lt
theorem lt_iff : ∀ a b : List UInt8, nLess (ofB a) (ofB b) = true ↔ a < b
  | [], [] => by simp [ofB, nLess]
  | [], _ :: _ => by simp [ofB, nLess]
  | _ :: _, [] => by simp [ofB, nLess]
  | a :: x, b :: y => by
    have := lt_iff x y
    unfold ofB at this
    rw [List.cons_lt_cons_iff, ← this]
    simp only [ofB, List.map_cons, nLess, Bool.or_eq_true, Bool.and_eq_true, Nat.blt_eq, Nat.beq_eq, UInt8.lt_iff_toNat_lt]
    rw [UInt8.toNat_inj]
theorem le_iff (a b : List UInt8) : nLess (ofB b) (ofB a) = false ↔ a ≤ b := by
  rw [← List.not_lt, ← lt_iff]
  cases nLess (ofB b) (ofB a) <;> simp
theorem le_rf (a : List UInt8) : a ≤ a := (le_iff a a).1 (nl_irr _)
theorem le_an (a b : List UInt8) (h1 : a ≤ b) (h2 : b ≤ a) : a = b := by
  have := nl_tot ((le_iff _ _).2 h2) ((le_iff _ _).2 h1)
  rw [← toB_ofB a, ← toB_ofB b, this]
theorem le_tr (a b c : List UInt8) (h1 : a ≤ b) (h2 : b ≤ c) : a ≤ c := by
  rw [← le_iff] at h1 h2 ⊢
  cases hb : nLess (ofB c) (ofB a) with
  | false => rfl
  | true =>
    cases h3 : nLess (ofB a) (ofB b) with
    | true => rw [nl_tr hb h3] at h2; cases h2
    | false => rw [nl_tot h3 h1] at hb; rw [hb] at h2; cases h2
theorem le_tot (a b : List UInt8) : a ≤ b ∨ b ≤ a := by
  rw [← le_iff, ← le_iff]
  cases hb : nLess (ofB b) (ofB a) with
  | false => exact .inl rfl
  | true => exact .inr (nl_as hb)
theorem sortB_sorted (zs : List (List UInt8)) : (sortB zs).Pairwise fun x y => x ≤ y := by
  have := List.pairwise_mergeSort (le := fun x y : List UInt8 => decide (x ≤ y)) (fun a b c h1 h2 => by simp only [decide_eq_true_eq] at *; exact le_tr a b c h1 h2) (fun a b => by simp only [Bool.or_eq_true, decide_eq_true_eq]; exact le_tot a b) zs
  exact List.Pairwise.imp (fun h => by simpa using h) this
theorem bytes_of (z : List UInt8) : bytesOf ⟨z.toArray⟩ = ofB z := by simp [bytesOf, ofB]
theorem enc_VR (G : Gh) (w : World) (z : List UInt8) : VR G w (Go.Proofs.encStr z) (.str (ofB z)) := by
  rw [← bytes_of]
  exact .str ⟨z.toArray⟩
theorem enc_inv (G : Gh) (w : World) (V : Value) (z : List UInt8) (r : VR G w V (.str (ofB z))) : V = Go.Proofs.encStr z := by
  generalize he : ofB z = l at r
  cases r with
  | str s =>
    have : s.data.toList = z := by
      have e : toB (bytesOf s) = toB (ofB z) := by rw [he]
      rw [toB_ofB] at e
      rw [← e]
      exact (toB_ofB s.data.toList).symm
    show Value.string s = .string ⟨z.toArray⟩
    rw [← this]

/-! Rows of texts -/
def insN (v : List Nat) : List (List Nat) → List (List Nat)
  | [] => [v]
  | a :: l => bif nLess v a then v :: a :: l else bif natsBeq v a then a :: l else a :: insN v l
def sortN : List (List Nat) → List (List Nat)
  | [] => []
  | a :: l => insN a (sortN l)
theorem insN_mem (v : List Nat) : ∀ (l : List (List Nat)) (x : List Nat), x ∈ insN v l ↔ x = v ∨ x ∈ l
  | [], x => by simp [insN]
  | a :: l, x => by
    simp only [insN]
    cases h1 : nLess v a with
    | true => simp
    | false =>
      cases h2 : natsBeq v a with
      | true =>
        rw [natsBeq_eq] at h2
        have : v = a := by simpa using h2
        subst this
        simp
      | false =>
        simp only [cond_false, List.mem_cons, insN_mem v l x]
        constructor
        · rintro (h | h | h) <;> simp [h]
        · rintro (h | h | h) <;> simp [h]
theorem insN_up (v : List Nat) : ∀ (l : List (List Nat)), l.Pairwise (fun x y => nLess x y = true) → (insN v l).Pairwise (fun x y => nLess x y = true)
  | [], _ => by simp [insN]
  | a :: l, h => by
    have h' := List.pairwise_cons.1 h
    simp only [insN]
    cases h1 : nLess v a with
    | true =>
      refine List.pairwise_cons.2 ⟨fun x hx => ?_, h⟩
      rcases List.mem_cons.1 hx with rfl | hx
      · exact h1
      · exact nl_tr h1 (h'.1 x hx)
    | false =>
      cases h2 : natsBeq v a with
      | true => exact h
      | false =>
        rw [natsBeq_eq] at h2
        have hne : v ≠ a := by simpa using h2
        simp only [cond_false]
        refine List.pairwise_cons.2 ⟨fun x hx => ?_, insN_up v l h'.2⟩
        rcases (insN_mem v l x).1 hx with rfl | hx
        · cases h3 : nLess a x with
          | true => rfl
          | false => exact absurd (nl_tot h1 h3) hne
        · exact h'.1 x hx
theorem sortN_up : ∀ l, (sortN l).Pairwise (fun x y => nLess x y = true)
  | [] => List.Pairwise.nil
  | a :: l => insN_up a _ (sortN_up l)
theorem sortN_mem : ∀ (l : List (List Nat)) (x : List Nat), x ∈ sortN l ↔ x ∈ l
  | [], x => by simp [sortN]
  | a :: l, x => by simp only [sortN, insN_mem, sortN_mem l x, List.mem_cons]
theorem sortN_eq (zs : List (List UInt8)) : (Lib.compact (sortB zs)).map ofB = sortN (zs.map ofB) := by
  obtain ⟨q1, q2⟩ := compact_sorted le_rf le_tr le_an (sortB_sorted zs)
  have hm : ∀ x ∈ sortN (zs.map ofB), ofB (toB x) = x := by
    intro x hx
    rw [sortN_mem] at hx
    obtain ⟨z, _, rfl⟩ := List.mem_map.1 hx
    rw [toB_ofB]
  have e1 : ((sortN (zs.map ofB)).map toB).map ofB = sortN (zs.map ofB) := by
    rw [List.map_map]
    conv => rhs; rw [← List.map_id (sortN (zs.map ofB))]
    exact List.map_congr_left fun x hx => hm x hx
  rw [← e1]
  congr 1
  refine strict_eq (le := fun x y : List UInt8 => x ≤ y) le_an q1 ?_ fun x => ?_
  · rw [List.pairwise_map]
    refine List.Pairwise.imp_of_mem (fun {a b} ha hb h => ?_) (sortN_up (zs.map ofB))
    refine ⟨(le_iff _ _).1 ?_, fun e => ?_⟩
    · rw [hm a ha, hm b hb]
      exact nl_as h
    · have : a = b := by rw [← hm a ha, ← hm b hb, e]
      rw [this, nl_irr] at h
      cases h
  · rw [q2, List.mem_mergeSort]
    constructor
    · intro hx
      exact List.mem_map.2 ⟨ofB x, (sortN_mem _ _).2 (List.mem_map.2 ⟨x, hx, rfl⟩), toB_ofB x⟩
    · intro hx
      obtain ⟨y, hy, rfl⟩ := List.mem_map.1 hx
      rw [sortN_mem] at hy
      obtain ⟨z, hz, rfl⟩ := List.mem_map.1 hy
      rw [toB_ofB]
      exact hz
def strsOf : List AV → Option (List (List UInt8))
  | [] => some []
  | .str s :: l => match strsOf l with
    | none => none
    | some m => bif s.all (fun x => Nat.blt x 256) then some (toB s :: m) else none
  | _ :: _ => none
theorem strsOf_some : ∀ {l : List AV} {m : List (List UInt8)}, strsOf l = some m → l = m.map fun z => AV.str (ofB z)
  | [], m, h => by simp [strsOf] at h; subst h; rfl
  | a :: l, m, h => by
    unfold strsOf at h
    split at h
    · rename_i heq; cases heq
    · rename_i s l' heq
      cases heq
      cases hm : strsOf l with
      | none => rw [hm] at h; simp at h
      | some q =>
        rw [hm] at h
        simp only at h
        cases hs : s.all (fun x => Nat.blt x 256) with
        | false => rw [hs] at h; simp at h
        | true =>
          rw [hs] at h
          simp only [cond_true, Option.some.injEq] at h
          subst h
          rw [strsOf_some hm, List.map_cons, ofB_toB fun x hx => blt_nat.1 (List.all_eq_true.1 hs x hx)]
    · cases h
theorem sortC40 : SortC Tryz.prog Go.Proofs.encStr sortB 40 where
  fn := ⟨_, Tryz.func40, by kernel_rfl, by kernel_rfl⟩
  len := fun zs => List.length_mergeSort zs
  nil := by simp [sortB]
  row := fun g cap zs w hH hg hl => calls_of_every_depth fun D => AnyS.slices_Sort_string_alone Tryz.lays190 D g 0 cap zs w hH hg hl
  none := fun p cap w => calls_of_every_depth fun D => AnyS.slices_Sort_string_none_alone Tryz.lays190 D p cap w
theorem compC41 : CompC Tryz.prog Go.Proofs.encStr ([] : List UInt8) 41 where
  fn := ⟨_, Tryz.func41, by kernel_rfl, by kernel_rfl⟩
  row := fun g cap zs w hH hl hc => calls_of_every_depth fun D => AnyS.slices_Compact_string_in Tryz.lays194 D g 0 cap zs w hH hl hc
  none := fun p cap w => calls_of_every_depth fun D => AnyS.slices_Compact_string_empty_in Tryz.lays194 D p cap w
noncomputable def b21_0 : Code := loopOf Tryz.f21 0
noncomputable def pre21 : Code := .seq (codeAt Tryz.f21 [0]) (.seq (codeAt Tryz.f21 [1, 0]) (.seq (codeAt Tryz.f21 [1, 1, 0]) (.seq (codeAt Tryz.f21 [1, 1, 1, 0, 0]) (.block 0 (.loop b21_0)))))
noncomputable def all21 : Code := .seq (codeAt Tryz.f21 [0]) (.seq (codeAt Tryz.f21 [1, 0]) (.seq (codeAt Tryz.f21 [1, 1, 0]) (.seq (.seq (codeAt Tryz.f21 [1, 1, 1, 0, 0]) (.block 0 (.loop b21_0))) (codeAt Tryz.f21 [1, 1, 1, 1]))))
theorem body21 : Tryz.f21.body = some all21 := rfl
/-- The row is the call's own, or empty. -/
def ownRow (o : Own) (n : Nat) (h : H) : Bool :=
  match o with
  | .full => Nat.beq n 0
  | .ch id => match h.t.get id with
    | some (.chain m e s) => Nat.beq m n && (Nat.beq e 9 && Nat.beq s 1)
    | _ => false
  | .no => false
noncomputable def env0 : Env := addPrim env 127 (primGrow 9 1 16)
theorem env0_ok : EnvOk Tryz.prog env0 := addPrim_ok env_ok pGrow_ok
/-- The part that is sorted. -/
noncomputable def pSort (E : Env) (a : AV) : Option AV :=
  match evCode (evFn E 60) E 21 47 60 pre21 (setArgs 0 [a] .e) ⟨.e, 0⟩ with
  | some (.normal, tm, h) => match tm.get 3 with
    | some (.sl o els) => match strsOf els with
      | some l => bif ownRow o l.length h && Nat.ble l.length 1000000 then some (.sl .no ((sortN (l.map ofB)).map AV.str)) else none
      | none => none
    | _ => none
  | _ => none
/-- The part that is not. -/
noncomputable def pRet (E : Env) (a : AV) : Option AV :=
  match evCode (evFn E 60) E 21 47 60 all21 (setArgs 0 [a] .e) ⟨.e, 0⟩ with
  | some (.ret, tm, h) => match evRes E.ty tm h Tryz.f21.results.toList with
    | some l => snapAV 40 h (resOf l)
    | none => none
  | _ => none
def primBare (p : List AV → Option AV) (args : List AV) (h : H) : Option (AV × H) :=
  match AV.baresF args with
  | none => none
  | some a => match p a with
    | none => none
    | some v => some (v, h)
noncomputable def pT : Nat → List AV → Option AV
  | 0, _ => none
  | k + 1, args => match args with
    | [a] => match pSort (addPrim env0 21 (primBare (pT k))) a with
      | some v => some v
      | none => pRet (addPrim env0 21 (primBare (pT k))) a
    | _ => none
theorem pSort_some {E : Env} {a v : AV} (h : pSort E a = some v) : ∃ tm h' o, ∃ l : List (List UInt8), cdL E 21 47 pre21 (setArgs 0 [a] .e) ⟨.e, 0⟩ = some (.normal, tm, h') ∧ tm.get 3 = some (.sl o (l.map fun z => AV.str (ofB z))) ∧ ownRow o l.length h' = true ∧ l.length ≤ 1000000 ∧ v = .sl .no ((sortN (l.map ofB)).map AV.str) := by
  unfold pSort at h
  split at h
  · rename_i tm h' he
    split at h
    · rename_i o els hg
      split at h
      · rename_i l hi
        cases hc : (ownRow o l.length h' && Nat.ble l.length 1000000) with
        | false => rw [hc] at h; simp at h
        | true =>
          rw [hc] at h
          simp only [cond_true, Option.some.injEq] at h
          simp only [Bool.and_eq_true] at hc
          exact ⟨tm, h', o, l, lim_some (mono_cd E 21 47 pre21 _ _) he, by rw [← strsOf_some hi]; exact hg, hc.1, Nat.le_of_ble_eq_true hc.2, h.symm⟩
      · cases h
    · cases h
  · cases h
theorem pRet_some {E : Env} {a v : AV} (h : pRet E a = some v) : ∃ u h', bodyL E 21 Tryz.f21 all21 [a] ⟨.e, 0⟩ = some (u, h') ∧ snapAV 40 h' u = some v := by
  unfold pRet at h
  split at h
  · rename_i tm h' he
    split at h
    · rename_i l hl
      refine ⟨resOf l, h', ?_, h⟩
      unfold bodyL
      rw [show cdL E 21 Tryz.f21.ntmps all21 (setArgs 0 [a] .e) ⟨.e, 0⟩ = _ from lim_some (mono_cd E 21 47 all21 _ _) he]
      unfold endL
      simp only [hl]
    · cases h
  · cases h
theorem pT_ok : ∀ k, PrimOk Tryz.prog 21 (primBare (pT k)) := by
  intro k
  induction k with
  | zero => exact ⟨⟨Tryz.f21, Tryz.func21, by kernel_rfl, by kernel_rfl⟩, fun args h v h' he => by unfold primBare at he; split at he <;> simp [pT] at he⟩
  | succ k ih =>
    have hE : EnvOk Tryz.prog (addPrim env0 21 (primBare (pT k))) := addPrim_ok env0_ok ih
    generalize hEq : addPrim env0 21 (primBare (pT k)) = E at hE
    have hfn : E.fns 21 = some Tryz.f21 := by rw [← hEq]; exact (by kernel_rfl : env0.fns 21 = some Tryz.f21)
    refine ⟨⟨Tryz.f21, Tryz.func21, by kernel_rfl, by kernel_rfl⟩, fun args h v hk he G w A I hA => ?_⟩
    unfold primBare at he
    cases hs : AV.baresF args with
    | none => rw [hs] at he; simp at he
    | some args' =>
      rw [hs] at he
      simp only at he
      cases hv : pT (k + 1) args' with
      | none => rw [hv] at he; simp at he
      | some v0 =>
        rw [hv] at he
        simp only [Option.some.injEq, Prod.mk.injEq] at he
        obtain ⟨rfl, rfl⟩ := he
        have hA' : VRs (Gp G) w A.toList args' := VRs.wk (n := 0) (G := G) (G' := Gp G) (fun b o v s => s) (fun id b hi => by omega) (fun id m v hi => by omega) hA (baresF_wk _ _ hs).1
        unfold pT at hv
        split at hv
        · rename_i a
          rw [hEq] at hv
          cases hps : pSort E a with
          | some v1 =>
            rw [hps] at hv
            simp only [Option.some.injEq] at hv
            subst hv
            obtain ⟨tm, h', o, l, hx, g3, hr, hll, rfl⟩ := pSort_some hps
            have key : Calls Tryz.prog 21 A w fun e w' => ∃ V, e = .returned V ∧ Old w w' ∧ ∀ G' : Gh, (∀ b, w.heap.size ≤ b → G'.fr b = none) → VR G' w' V (.sl .no ((sortN (l.map ofB)).map AV.str)) := by
              refine calls_of_wp Tryz.func21 body21 ?_
              have hAl : A.size = 1 := by have := hA'.1; simpa using this
              have T0 : TmR (Gp G) w 47 (setArgs 0 [a] .e) { tmps := A ++ Array.replicate (47 - A.size) undef, defers := [] } := tmr_start (by simp) hA'
              have hco := hE.plans 21 Tryz.f21 _ hfn body21
              refine seq4_sim hE (by unfold all21 at hco; simp only [codeOk, Bool.and_eq_true] at hco ⊢; exact ⟨hco.1, hco.2.1, hco.2.2.1, hco.2.2.2.1⟩) (invp I) T0 hx fun G1 w1 a1 I1 X1 T1 d1 => ?_
              have r := T1.val 3 _ g3
              have hsz := T1.size
              have hfr : (o = .full ∧ l = []) ∨ ∃ id, o = .ch id ∧ h'.t.get id = some (.chain l.length 9 1) := by
                unfold ownRow at hr
                split at hr
                · exact .inl ⟨rfl, List.eq_nil_of_length_eq_zero (beq_nat.1 hr)⟩
                · rename_i id
                  split at hr
                  · rename_i n e s hg
                    simp only [Bool.and_eq_true, beq_nat] at hr
                    obtain ⟨rfl, rfl, rfl⟩ := hr
                    exact .inr ⟨id, rfl, hg⟩
                  · cases hr
                · cases hr
              have ho := row_owned (G := G) (enc := Go.Proofs.encStr) I1 X1 (av := fun z => AV.str (ofB z)) enc_inv (fun _ => rfl) hfr r
              obtain ⟨o0, o1, o2, o3, o4, hT, q0, q1, q2, q3, q4⟩ : ∃ o0 o1 o2 o3 o4, codeAt Tryz.f21 [1, 1, 1, 1] = .seq (.region 15 #[o0, o1] false) (.seq (.region 16 #[o2, o3, o4] false) .ret) ∧ (o0.op = .move (.tmp 3) ∧ o0.dst = some 43 ∧ o0.guard = none) ∧
                  (o1.op = .call { callee := .value (.func 40), args := #[.tmp 43], argTypes := #[25] } ∧ o1.dst = some 44 ∧ o1.guard = none) ∧ (o2.op = .move (.tmp 3) ∧ o2.dst = some 45 ∧ o2.guard = none) ∧
                  (o3.op = .call { callee := .value (.func 41), args := #[.tmp 45], argTypes := #[25] } ∧ o3.dst = some 46 ∧ o3.guard = none) ∧ (o4.op = .assign (.tmp 46) ∧ o4.dst = some 2 ∧ o4.guard = none) :=
                ⟨_, _, _, _, _, rfl, ⟨rfl, rfl, rfl⟩, ⟨rfl, rfl, rfl⟩, ⟨rfl, rfl, rfl⟩, ⟨rfl, rfl, rfl⟩, ⟨rfl, rfl, rfl⟩⟩
              rw [hT, ← sortN_eq, List.map_map]
              exact tail_sc (e := 9) sortC40 compC41 (av := fun z => AV.str (ofB z)) enc_VR (fun _ => rfl) rfl (below_of_ext X1) (by omega) ho q0 q1 q2 q3 q4 rfl d1 rfl (by rw [hsz]; omega) (by omega)
            refine key.mono ?_
            rintro e w' ⟨V, rfl, O, hV⟩
            refine ⟨G, V, rfl, hV G fun b hb => ?_, grow_inv I O.os O.tape O.output O.size O.same, grow_ext G _ O.os O.tape O.output O.size O.same⟩
            cases hf : G.fr b with
            | none => rfl
            | some k => exact absurd (I.frb b k hf).2 (by omega)
          | none =>
            rw [hps] at hv
            obtain ⟨u, h', hb, hsn⟩ := pRet_some hv
            exact ((bodyL_sim hE hfn body21 (by kernel_rfl) hb).2 (Gp G) w A (invp I) hA').mono fun e w' hp => post_snap I hsn hp
        · cases hv
end Go.Proofs.YtogjplcnmibnlaaGreatDoor.Env
