/- slices.Backward over an env: its contract. -/
import Derived.RangeFuncNested
import Derived.RangeFuncBound
import Derived.RangeFuncCalls
import Derived.RangeFuncLeaves
import Derived.RangeFuncBox
import Derived.Shelf.Abstract
import Derived.Shelf.RegionOpen
import Derived.WalkKit
import Derived.OwnWalkIn
import Derived.TacticsInMore
import Derived.LoopNIn
import Derived.LoopIn
import Derived.Test.YtncccgglillmoaaGreatDoorProg
set_option autoImplicit false
namespace Go.Proofs.YtncccgglillmoaaGreatDoor.Env
open Go.RowKit Go.Shelf
attribute [local go_sem] Oper.semAt_some

/-- What has come when k rounds are over. -/
def downTo (len k : Nat) : List Nat := (List.range k).map fun m => len - 1 - m
theorem downTo_succ (len k : Nat) : downTo len (k + 1) = downTo len k ++ [len - 1 - k] := by simp [downTo, List.range_succ]
theorem downTo_length (len k : Nat) : (downTo len k).length = k := by simp [downTo]
set_option maxRecDepth 100000 in
set_option maxHeartbeats 2000000 in
theorem backward1_in (F : Fence) (n : Nat) (h32 : F.fn 123) (hro : F.round = none) (hn : 1 ≤ n) (l Bs n₀ b off len cap : Nat) (r0 r1 r2 r3 r4 : Nat → Value) (hlen : len ≤ 1000000000000000000) (hb : b < n₀) (J Jx : List Nat → World → Prop)
    (hY : ∀ pre x W, J pre W → pre.length < len → YieldAt F (n - 1) Tryz.prog l #[.int .i64 (x : Nat), .agg #[r0 x, r1 x, r2 x, r3 x, r4 x]] W fun e W' =>
      (e = .returned (.bool true) ∧ J (pre ++ [x]) W' ∧ Below n₀ W W') ∨ (e = .returned (.bool false) ∧ Jx (pre ++ [x]) W'))
    (W : World) (hBn : Bs < n₀) (hBs : W.cell? ⟨Bs, 0, none⟩ = some (.slice (some ⟨b, off, none⟩) len cap)) (hc : ∀ i, i < len → W.cell? ⟨b, off + i * 5, none⟩ = some (r0 i) ∧ W.cell? ⟨b, off + i * 5 + 1, none⟩ = some (r1 i) ∧ W.cell? ⟨b, off + i * 5 + 2, none⟩ = some (r2 i) ∧ W.cell? ⟨b, off + i * 5 + 3, none⟩ = some (r3 i) ∧ W.cell? ⟨b, off + i * 5 + 4, none⟩ = some (r4 i)) (h0 : J [] W) :
    CallsIn F n Tryz.prog 123 #[.func (.yield l) #[] #[], .pointer (some ⟨Bs, 0, none⟩)] W fun e W' => (∃ v, e = .returned v) ∧
      ((∃ ys, ys = downTo len len ∧ J ys W') ∨ (∃ pre, (∃ k, k ≤ len ∧ pre = downTo len k) ∧ Jx pre W')) := by
  refine callsIn_of_wp Tryz.func123 rfl h32 ?_ hro
  simp only [Tryz.ntmps123, List.size_toArray, List.length_cons, List.length_nil, Nat.reduceAdd, Nat.reduceSub, Array.replicate_succ, Array.replicate_zero, List.push_toArray, List.append_toArray, List.nil_append, List.cons_append]
  gi_wp2
  gi_loopw [3] (fun i wr => ∃ k : Nat, k ≤ len ∧ i = .int .i64 ((len : Int) - 1 - k) ∧ J (downTo len k) wr ∧ Below n₀ W wr)
    (fun i _ => (intOf i + 1).toNat)
  case atStart => exact ⟨0, Nat.zero_le _, by simp, h0, Below.refl _ _⟩
  case round =>
    obtain ⟨k, hk, rfl, hJs, hnx⟩ := hrel
    have hBs' : wr.cell? ⟨Bs, 0, none⟩ = some (.slice (some ⟨b, off, none⟩) len cap) := (hnx.cell (p := ⟨Bs, 0, none⟩) hBn).trans hBs
    by_cases hlt : k < len
    · obtain ⟨m, hm⟩ : ∃ m : Nat, (len : Int) - 1 - k = m ∧ len - 1 - k = m ∧ m < len := ⟨len - 1 - k, by omega, rfl, by omega⟩
      have hcx : ∀ j v, W.cell? ⟨b, off + m * 5 + j, none⟩ = some v → wr.cell? ⟨b, off + m * 5 + j, none⟩ = some v := fun j v h => (hnx.cell (p := ⟨b, off + m * 5 + j, none⟩) hb).trans h
      obtain ⟨d0, d1, d2, d3, d4⟩ := hc m hm.2.2
      have c0 := hcx 0 _ d0
      have c1 := hcx 1 _ d1
      have c2 := hcx 2 _ d2
      have c3 := hcx 3 _ d3
      have c4 := hcx 4 _ d4
      rw [Nat.add_zero] at c0
      obtain ⟨fn, tmps, assign, body, hy, hR⟩ := hY _ m wr hJs (by rw [downTo_length]; exact hlt)
      rw [hm.1]
      clear hcx d0 d1 d2 d3 d4
      generalize r0 m = v0 at c0 hy
      generalize r1 m = v1 at c1 hy
      generalize r2 m = v2 at c2 hy
      generalize r3 m = v3 at c3 hy
      generalize r4 m = v4 at c4 hy
      gi_wp2
      refine hR.mono ?_
      rintro e W3 (⟨rfl, hJ3, hk3⟩ | ⟨rfl, hJx3⟩)
      · gi_wp2
        go_roundw
        case rel => exact ⟨k + 1, by omega, by simp; omega, by rw [downTo_succ, hm.2.1]; exact hJ3, hnx.trans hk3⟩
        case measure => simp [intOf]
      · gi_wp2
        refine bodyPost_ret (results_none rfl _ _ _) rfl ?_
        exact ⟨⟨_, rfl⟩, .inr ⟨_, ⟨k + 1, by omega, by rw [downTo_succ, hm.2.1]⟩, hJx3⟩⟩
    · obtain rfl : k = len := by omega
      have e : (k : Int) - 1 - k = -1 := by omega
      rw [e]
      gi_wp2
      go_end0
      exact ⟨⟨_, rfl⟩, .inl ⟨_, rfl, hJs⟩⟩

set_option maxRecDepth 100000 in
set_option maxHeartbeats 1000000 in
theorem backward1_nil_in (F : Fence) (n : Nat) (h32 : F.fn 123) (hro : F.round = none) (l Bs : Nat) (A : Option Addr) (cap : Nat) (J : List Nat → World → Prop) (W : World) (hBs : W.cell? ⟨Bs, 0, none⟩ = some (.slice A 0 cap)) (h0 : J [] W) :
    CallsIn F n Tryz.prog 123 #[.func (.yield l) #[] #[], .pointer (some ⟨Bs, 0, none⟩)] W fun e W' => (∃ v, e = .returned v) ∧ J [] W' := by
  refine callsIn_of_wp Tryz.func123 rfl h32 ?_ hro
  simp only [Tryz.ntmps123, List.size_toArray, List.length_cons, List.length_nil, Nat.reduceAdd, Nat.reduceSub, Array.replicate_succ, Array.replicate_zero, List.push_toArray, List.append_toArray, List.nil_append, List.cons_append]
  gi_wp2
  gi_loopw [3] (fun i wr => i = .int .i64 (-1) ∧ J [] wr) (fun _ _ => 0)
  case atStart => exact ⟨rfl, h0⟩
  case round =>
    obtain ⟨rfl, hJs⟩ := hrel
    gi_wp2
    go_end0
    exact ⟨⟨_, rfl⟩, hJs⟩

set_option maxHeartbeats 1000000 in
theorem backward_in (F : Fence) (n : Nat) (h25 : F.fn 99) (hro : F.round = none) (a : Option Addr) (len cap : Nat) (w : World) :
    CallsIn F n Tryz.prog 99 #[.slice a len cap] w fun e w' => e = .returned (.func (.func 123) #[] #[.pointer (some ⟨w.heap.size, 0, none⟩)]) ∧ w' = w.alloc (.cells #[.slice a len cap] 128) := by
  refine callsIn_of_wp Tryz.func99 rfl h25 ?_ hro
  simp only [Tryz.ntmps99, List.size_toArray, List.length_cons, List.length_nil, Nat.reduceAdd, Nat.reduceSub, Array.replicate_succ, Array.replicate_zero, List.push_toArray, List.append_toArray, List.nil_append, List.cons_append]
  gi_wp2
  go_ret
  exact ⟨rfl, rfl⟩

/-- The slice's elements lie in a block below n₀; or there are none. -/
def Rows5 (n₀ : Nat) (W : World) (sv : Value) (len : Nat) (r0 r1 r2 r3 r4 : Nat → Value) : Prop :=
  (∃ A cap, sv = .slice A 0 cap ∧ len = 0) ∨ ∃ b off cap, sv = .slice (some ⟨b, off, none⟩) len cap ∧ b < n₀ ∧
    ∀ i, i < len → W.cell? ⟨b, off + i * 5, none⟩ = some (r0 i) ∧ W.cell? ⟨b, off + i * 5 + 1, none⟩ = some (r1 i) ∧ W.cell? ⟨b, off + i * 5 + 2, none⟩ = some (r2 i) ∧ W.cell? ⟨b, off + i * 5 + 3, none⟩ = some (r3 i) ∧ W.cell? ⟨b, off + i * 5 + 4, none⟩ = some (r4 i)
theorem Rows5.below {n₀ : Nat} {A B : World} (h : Below n₀ A B) {sv : Value} {len : Nat} {r0 r1 r2 r3 r4 : Nat → Value} : Rows5 n₀ A sv len r0 r1 r2 r3 r4 → Rows5 n₀ B sv len r0 r1 r2 r3 r4
  | .inl e => .inl e
  | .inr ⟨b, off, cap, e, hb, hc⟩ => .inr ⟨b, off, cap, e, hb, fun i hi => by
      obtain ⟨d0, d1, d2, d3, d4⟩ := hc i hi
      exact ⟨(h.cell (p := ⟨b, _, none⟩) hb).trans d0, (h.cell (p := ⟨b, _, none⟩) hb).trans d1, (h.cell (p := ⟨b, _, none⟩) hb).trans d2, (h.cell (p := ⟨b, _, none⟩) hb).trans d3, (h.cell (p := ⟨b, _, none⟩) hb).trans d4⟩⟩
theorem backward_stops (F : Fence) (n : Nat) (h32 : F.fn 123) (hro : F.round = none) (hn : 1 ≤ n) (Bs n₀ : Nat) (sv : Value) (len : Nat) (hlen : len ≤ 1000000000000000000) (r0 r1 r2 r3 r4 : Nat → Value) (w : World) (hBs : Bs < w.heap.size) (hBn : Bs < n₀) (hn₀ : n₀ ≤ w.heap.size)
    (hc : w.cell? ⟨Bs, 0, none⟩ = some sv) (hI : Rows5 n₀ w sv len r0 r1 r2 r3 r4) :
    SeqStopsK F n Tryz.prog 123 #[.pointer (some ⟨Bs, 0, none⟩)] (fun x : Nat => #[Value.int .i64 x, .agg #[r0 x, r1 x, r2 x, r3 x, r4 x]]) (Below n₀) (fun ys => ys = downTo len len) (fun pre => ∃ k, k ≤ len ∧ pre = downTo len k) len w := fun l J Jx W hW _ _ hY h0 => by
  have hc' := (hW.cell (p := ⟨Bs, 0, none⟩) hBs).trans hc
  rcases hI.below (hW.mono hn₀) with ⟨A, cap, rfl, rfl⟩ | ⟨b, off, cap, rfl, hb, hcs⟩
  · exact (backward1_nil_in F n h32 hro l Bs A cap J W hc' h0).mono fun e W' ⟨he, hj⟩ => ⟨he, .inl ⟨_, rfl, hj⟩⟩
  · refine (backward1_in F n h32 hro hn l Bs n₀ b off len cap r0 r1 r2 r3 r4 hlen hb J Jx hY W hBn hc' hcs h0).mono ?_
    rintro e W' ⟨he, ⟨ys, rfl, hj⟩ | ⟨pre, ⟨k, hk, rfl⟩, hj⟩⟩
    · exact ⟨he, .inl ⟨_, rfl, hj⟩⟩
    · exact ⟨he, .inr ⟨_, ⟨k, hk, rfl⟩, hj⟩⟩
end Go.Proofs.YtncccgglillmoaaGreatDoor.Env
