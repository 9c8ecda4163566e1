/- errors.As as a primitive. -/
import Derived.Test.YtncccgglillmoaaGreatDoorZAt
import Derived.Test.YtncccgglillmoaaGreatDoorZD
set_option autoImplicit false
set_option maxRecDepth 100000
set_option linter.unusedVariables false
namespace Go.Proofs.YtncccgglillmoaaGreatDoor.Env
open Go.Ev Go.Proofs.YtncccgglillmoaaGreatDoor.As

/-- The fault down a chain. -/
def chainF : Nat → H → AV → Option (Nat × Nat)
  | 0, _, _ => none
  | k + 1, h, v => match v with
    | .iface ty (.ptr (some (id, off))) => bif Nat.beq ty 92 then some (id, off) else bif Nat.beq ty 187 then match h.t.get id with
      | some (.cells cs) => match cs[off + 1]? with
        | some x => chainF k h x
        | none => none
      | _ => none
      else none
    | _ => none
def pAs : List AV → H → Option (AV × H)
  | [.nilIface, _], h => some (.bool false, h)
  | [.iface a x, .iface b (.ptr (some (t, o)))], h => match chainF 200 h (.iface a x) with
    | none => none
    | some e => bif Nat.beq b 94 && Nat.beq o 0 then match h.t.get t with
      | some (.cells [_]) => some (.bool true, h.put t (.cells [.ptr (some e)]))
      | _ => none
      else none
  | _, _ => none
theorem chain_of {G : Gh} {w : World} {h : H} (I : Inv G w h) : ∀ (k : Nat) (v : AV) (e : Nat × Nat) (V : Value), chainF k h v = some e → VR G w V v → ∃ b d, G.ρ e.1 = some b ∧ Chain w ⟨b, e.2, none⟩ V d
  | 0, v, e, V, hc, r => by simp [chainF] at hc
  | k + 1, v, e, V, hc, r => by
    unfold chainF at hc
    split at hc
    · rename_i ty id off
      cases r with
      | iface _ V1 _ r1 =>
      cases r1 with
      | ptr _ b _ hr =>
      cases h92 : Nat.beq ty 92 with
      | true =>
        rw [h92] at hc
        simp only [cond_true, Option.some.injEq] at hc
        subst hc
        have := beq_nat.1 h92
        subst this
        exact ⟨b, 0, hr, .hit⟩
      | false =>
        rw [h92] at hc
        simp only [cond_false] at hc
        cases h187 : Nat.beq ty 187 with
        | false => rw [h187] at hc; simp at hc
        | true =>
          rw [h187] at hc
          simp only [cond_true] at hc
          have := beq_nat.1 h187
          subst this
          split at hc
          · rename_i cs hcs
            split at hc
            · rename_i x hx
              obtain ⟨c, et, hb, hl⟩ := I.cells hr hcs
              have hlt : off + 1 < c.toList.length := by rw [hl.1]; exact getElem?_lt hx
              have hV := hl.2 (off + 1) _ x (List.getElem?_eq_getElem hlt) hx
              obtain ⟨b', d, e1, e2⟩ := chain_of I k x e _ hc hV
              refine ⟨b', d + 1, e1, .step b off _ d ?_ e2⟩
              rw [cell_at hb]
              have hlt2 : off + 1 < c.size := by simpa using hlt
              simp [hlt2]
            · cases hc
          · cases hc
    · cases hc
theorem pAs_ok : PrimOk Tryz.prog 27 pAs := by
  refine ⟨⟨Tryz.f27, Tryz.func27, by kernel_rfl, by kernel_rfl⟩, fun args h v h' he G w A I hA => ?_⟩
  unfold pAs at he
  split at he
  · simp only [Option.some.injEq, Prod.mk.injEq] at he
    obtain ⟨rfl, rfl⟩ := he
    obtain ⟨l⟩ := A
    obtain ⟨V0, l, rfl, r0, hA⟩ := hA.uncons
    obtain ⟨V1, l, rfl, r1, hA⟩ := hA.uncons
    have : l = [] := List.eq_nil_of_length_eq_zero hA.1
    subst this
    cases r0
    refine (as_nil V1 w).mono ?_
    rintro e w' ⟨rfl, rfl⟩
    exact ⟨G, _, rfl, .bool _, I, Ext.refl G w' h⟩
  · rename_i _ a x b t o
    split at he
    · cases he
    · rename_i e hc
      cases hb : (Nat.beq b 94 && Nat.beq o 0) with
      | false => rw [hb] at he; simp at he
      | true =>
        rw [hb] at he
        simp only [cond_true] at he
        simp only [Bool.and_eq_true, beq_nat] at hb
        obtain ⟨rfl, rfl⟩ := hb
        split at he
        · rename_i c0 hct
          simp only [Option.some.injEq, Prod.mk.injEq] at he
          obtain ⟨rfl, rfl⟩ := he
          obtain ⟨l⟩ := A
          obtain ⟨V0, l, rfl, r0, hA⟩ := hA.uncons
          obtain ⟨V1, l, rfl, r1, hA⟩ := hA.uncons
          have : l = [] := List.eq_nil_of_length_eq_zero hA.1
          subst this
          obtain ⟨be, d, q1, q2⟩ := chain_of I 200 _ e V0 hc r0
          cases r1 with
          | iface _ V2 _ r2 =>
          cases r2 with
          | ptr _ bt _ hr =>
          obtain ⟨c, et, hbt, hl⟩ := I.cells hr hct
          have hc1 : c.size = 1 := by have := hl.1; simpa using this
          obtain ⟨old, rfl⟩ : ∃ old, c = #[old] := by
            obtain ⟨l⟩ := c
            match l, hc1 with
            | [y], _ => exact ⟨y, rfl⟩
          have hg : w.cell? ⟨0, 0, none⟩ = some (.iface 197 (.agg #[.pointer (some ⟨4, 89, none⟩)])) := (I.ka _ (List.mem_cons_of_mem _ (List.mem_cons_self ..))).1 w rfl
          refine (as27 ⟨be, e.2, none⟩ ⟨bt, 0, none⟩ old V0 d w hg (by simp [World.cell?, hbt]) (by simp [World.frozen?, hbt]) q2).mono ?_
          rintro ev w' ⟨rfl, rfl⟩
          have hbl : bt < w.heap.size := (Array.getElem?_eq_some_iff.1 hbt).1
          generalize hW : ((asMade w ⟨bt, 0, none⟩).alloc (.cells #[.pointer (some ⟨4, 94, none⟩), .pointer (some ⟨w.heap.size, 0, none⟩), .int .u64 150] 147)).alloc (.cells #[.pointer (some ⟨be, e.2, none⟩)] 92) = W
          have hsz : w.heap.size ≤ W.heap.size := by rw [← hW]; unfold asMade; simp; omega
          have hsame : ∀ j, j < w.heap.size → W.heap[j]? = w.heap[j]? := by
            intro j hj
            rw [← hW]
            unfold asMade
            rw [Go.heap_alloc_old _ _ (by simp; omega), Go.heap_alloc_old _ _ (by simp; omega), Go.heap_alloc_old _ _ (by simp; omega), Go.heap_alloc_old _ _ hj]
          have ho : W.os = w.os ∧ W.tape = w.tape ∧ W.output = w.output := by rw [← hW]; exact ⟨rfl, rfl, rfl⟩
          have I1 : Inv G W h := grow_inv I ho.1 ho.2.1 ho.2.2 hsz hsame
          have X1 : Ext G w h G W h := grow_ext G h ho.1 ho.2.1 ho.2.2 hsz hsame
          have hbW : W.heap[bt]? = some (.cells #[old] et) := (hsame bt hbl).trans hbt
          have hset := heap_setS (k := 0) (v := .pointer (some ⟨be, e.2, none⟩)) hbW
          have hon : OnlyAt W (W.setCell ⟨bt, 0, none⟩ (.pointer (some ⟨be, e.2, none⟩))) bt := ⟨rfl, rfl, rfl, by simp [World.setCell], fun c hne => by simp [World.setCell, Array.getElem?_modify, Ne.symm hne]⟩
          have I2 := put_inv I1 hr (.cells [.ptr (some e)]) hon (by
            rw [hset]
            refine ⟨rfl, rfl, fun i v x hv hx => ?_⟩
            cases i with
            | zero =>
              simp at hv hx
              subst hv; subst hx
              exact .ptr e.1 be e.2 q1
            | succ i => simp at hx)
          exact ⟨G, _, rfl, .bool _, I2, X1.trans (put_ext I1 hr _ hon)⟩
        · cases he
  · cases he
end Go.Proofs.YtncccgglillmoaaGreatDoor.Env
