/- A row that is made with room, and nothing in it yet: slices.Grow of nil. -/
import Derived.Test.YtogjplcnmibnlaaGreatDoorEwK
import Derived.Test.YtogjplcnmibnlaaGreatDoorEwE
import Derived.Lib.AppendZeros
set_option autoImplicit false
set_option linter.unusedSectionVars false
set_option linter.unusedVariables false
set_option linter.unusedSimpArgs false
namespace Go.Ev
variable [Inhabited KA0] [MT]
theorem row0_chain {G : Gh} {w : World} {h : H} (I : Inv G w h) {id e s : Nat} (hg : h.t.get id = some (.row 0 e s [])) : Inv G w (h.put id (.chain 0 e s)) where
  wf := fun j o hj => by
    by_cases ej : j = id
    · subst ej; exact I.wf j _ hg
    · rw [show (h.put id (.chain 0 e s)).t.get j = h.t.get j from T.get_set_ne _ _ ej] at hj
      exact I.wf j o hj
  frb := I.frb
  bas := I.bas
  obj := fun j b hj => by
    obtain ⟨h1, h2, h3, h4⟩ := I.obj j b hj
    have ej : j ≠ id := by
      rintro rfl
      rw [hg] at h4
      exact h4.elim
    refine ⟨h1, h2, h3, ?_⟩
    rw [show (h.put id (.chain 0 e s)).t.get j = h.t.get j from T.get_set_ne _ _ ej]
    exact h4
  chn := fun j n v hj => by
    obtain ⟨h1, g, e', size, xs, cap, k, h2, h3, h4, h5, h6, h7⟩ := I.chn j n v hj
    by_cases ej : j = id
    · subst ej
      rw [hg] at h2
      rcases h2 with ⟨h2, _⟩ | ⟨cs, h2, rfl, _⟩
      · cases h2
      · simp only [Option.some.injEq, Obj.row.injEq] at h2
        obtain ⟨rfl, rfl, rfl, rfl⟩ := h2
        exact ⟨h1, g, e, s, xs, cap, 0, .inl ⟨T.get_set _ _ _, by simp⟩, h3, h4, h5, h6, h7⟩
    · exact ⟨h1, g, e', size, xs, cap, k, by rw [show (h.put id (.chain 0 e s)).t.get j = h.t.get j from T.get_set_ne _ _ ej]; exact h2, h3, h4, h5, h6, h7⟩
  ka := I.ka
theorem set_set {α : Type} (t : T α) (k : Nat) (a b : α) : ∀ j, ((t.set k a).set k b).get j = (t.set k b).get j := by
  intro j
  by_cases e : j = k
  · subst e; rw [T.get_set, T.get_set]
  · rw [T.get_set_ne _ _ e, T.get_set_ne _ _ e, T.get_set_ne _ _ e]
/-- Inv hangs on what the heap gives alone. -/
theorem Inv.same {G : Gh} {w : World} {h h' : H} (I : Inv G w h) (hn : h'.nx = h.nx) (hg : ∀ j, h'.t.get j = h.t.get j) : Inv G w h' where
  wf := fun j o hj => by rw [hn]; rw [hg] at hj; exact I.wf j o hj
  frb := I.frb
  bas := I.bas
  obj := fun j b hj => by rw [hn, hg]; exact I.obj j b hj
  chn := fun j n v hj => by rw [hn, hg]; exact I.chn j n v hj
  ka := I.ka
theorem Ext.same {G G' : Gh} {w w' : World} {h h1 h2 : H} (X : Ext G w h G' w' h1) (hn : h2.nx = h1.nx) (hg : ∀ j, h2.t.get j = h1.t.get j) : Ext G w h G' w' h2 where
  os := X.os
  tape := X.tape
  output := X.output
  size := X.size
  base := X.base
  still := X.still
  part := X.part
  ρ := X.ρ
  cv := X.cv
  nx := by rw [hn]; exact X.nx
  unm := fun j a b c => by rw [hg]; exact X.unm j a b c
  own := X.own
/-- A new block with room, as an empty row that may be appended to. -/
theorem new_room {G : Gh} {w : World} {h : H} (I : Inv G w h) {e s cap : Nat} {C : Array Value} (hs : 0 < s) (hm : cap ≤ maxLen) (hC : C.size = cap * s) :
    ∃ G', Inv G' (w.alloc (.cells C e)) (h.new (.chain 0 e s)) ∧ Ext G w h G' (w.alloc (.cells C e)) (h.new (.chain 0 e s)) ∧ VR G' (w.alloc (.cells C e)) (.slice (some ⟨w.heap.size, 0, none⟩) 0 cap) (.sl (.ch h.nx) []) := by
  obtain ⟨f1, f2, f3⟩ := I.fresh
  have A := addRow_R (new_inv I (.row 0 e s [])) h.nx (Nat.lt_succ_self _) f1 f2 (n := 0) (e := e) (s := s) (cap := cap) (C := C) (cs := []) (T.get_set _ _ _) hs (Nat.zero_le _) hm hC (by simpa using VRs.nil G w)
  have I1 := row0_chain A.inv (T.get_set _ _ _)
  have eg : ∀ j, (h.new (.chain 0 e s)).t.get j = ((h.new (.row 0 e s [])).put h.nx (.chain 0 e s)).t.get j := fun j => (set_set _ _ _ _ j).symm
  have I2 : Inv _ _ (h.new (.chain 0 e s)) := I1.same rfl eg
  have X0 := A.ext h (Nat.le_succ _) (fun j hj _ _ => by omega) (fun j hj => T.get_set_ne _ _ (by omega))
  have X1 : Ext G w h _ (w.alloc (.cells C e)) (h.new (.chain 0 e s)) :=
    ⟨X0.os, X0.tape, X0.output, X0.size, X0.base, X0.still, X0.part, X0.ρ, X0.cv, X0.nx, fun j a b c => ⟨T.get_set_ne _ _ (by omega), (X0.unm j a b c).2.1, (X0.unm j a b c).2.2⟩, X0.own⟩
  refine ⟨_, I2, X1, .sl0 _ cap _ (fun e => by cases e) ⟨0, _, by simp [Gh.addRow], Nat.le_refl _, fun _ => rfl⟩⟩
/-- What a run on the empty heap shows, it shows behind any heap. -/
theorem post_snap {G : Gh} {w : World} {h h1 : H} (I : Inv G w h) {n : Nat} {u v0 : AV} (hs : snapAV n h1 u = some v0) {e : Ending} {w' : World} (hp : Post (Gp G) w ⟨.e, 0⟩ u h1 e w') : Post G w h v0 h e w' := by
  obtain ⟨G1, V, rfl, hV, I1, X⟩ := hp
  have same : ∀ j, j < w.heap.size → w'.heap[j]? = w.heap[j]? := fun j hj => (X.own j hj rfl).1
  have new : ∀ b, w.heap.size ≤ b → G.fr b = none := fun b hb => by
    cases hf : G.fr b with
    | none => rfl
    | some k => exact absurd (I.frb b k hf).2 (by omega)
  refine ⟨G, V, rfl, snap_to I1 (fun b o x s => ⟨s.1, ?_⟩) (fun b id ho => ?_) n u v0 V hs hV, grow_inv I X.os X.tape X.output X.size same, grow_ext G _ X.os X.tape X.output X.size same⟩
  · by_cases hbl : b < w.heap.size
    · have := s.2
      rw [(X.own b hbl rfl).2.1] at this
      exact this
    · exact .inl (new b (by omega))
  · by_cases hbl : b < w.heap.size
    · rw [(X.own b hbl rfl).2.2] at ho
      cases ho
    · exact new b (by omega)
/-- slices.Grow of an empty slice without room. -/
def primGrow (e s byt : Nat) : List AV → H → Option (AV × H)
  | [.sl .full [], .int .i64 (.ofNat n)], h => bif Nat.beq n 0 then some (.sl .full [], h) else bif Nat.ble (n * byt) 140737488355328 then some (.sl (.ch h.nx) [], h.new (.chain 0 e s)) else none
  | _, _ => none
/-- append(x, make([]T, n)...), x empty and without room. -/
theorem run_append_zeros {P : Program} (w : World) (t tn ty e : TypeId) (i : TypeInfo) (z : Value) (k kn : IntKind) (ht : P.underlying t = some (.slice e)) (htn : P.underlying tn = some (.int kn)) (hi : P.info? e = some i) (hz : i.zero = some z)
    (A : Option Addr) (n : Nat) (h0 : 0 < n) (hs : 0 < i.size) (h63 : (n : Int) ≤ 9223372036854775807) (h48 : n * i.bytes ≤ 281474976710656) :
    (Builtin.append_ #[t, tn] ty #[.slice A 0 0, .int k n]).run P w =
      .ok (.slice (some ⟨w.heap.size, 0, none⟩) n (grownCap w n 0 e)) (w.drew.alloc (.cells (Builtin.zeroCells z.cells n ++ Builtin.zeroCells z.cells (grownCap w n 0 e - n)) e)) := by
  cases A with
  | none => exact Lib.run_append_nil_zeros w t tn ty e i z k kn ht htn hi hz n h0 hs h63 h48
  | some a =>
    have hn : n ≠ 0 := by omega
    have hw : IntKind.i64.wrap (n : Int) = n := by rw [IntKind.wrap_i64]; omega
    have h63' : ¬ (9223372036854775807 < (n : Int)) := by omega
    have h48' : ¬ (281474976710656 < Builtin.nextslicecap n 0 * i.bytes) := by rw [nextslicecap_zero h0]; omega
    have h48i : ¬ (281474976710656 < (n : Int) * (i.bytes : Int)) := by
      rw [← Int.natCast_mul]
      omega
    have hneg : ¬ ((n : Int) < 0) := by omega
    have hns : ¬ (n * i.size = 0) := Nat.mul_ne_zero hn (by omega)
    have hf : (Builtin.firstCells i.size 0 (.slice (some a) 0 0)).run P w.drew = .ok #[] w.drew := by simp [Builtin.firstCells, loadCells, loadCellsFrom]
    simp [Builtin.append_, run_underlying ht, run_underlying htn, sizeOf, typeInfo, zeroValue, hi, hz, asInt, asIntOf, hw, hn, hneg, hns, h63', h48', h48i, Question.forced, hf, newRow, grownCap]
end Go.Ev
