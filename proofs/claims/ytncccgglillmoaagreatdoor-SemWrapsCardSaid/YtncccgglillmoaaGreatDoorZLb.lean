/- The program's Look. -/
import Derived.Test.YtncccgglillmoaaGreatDoorZLa
set_option autoImplicit false
namespace Go.Proofs.YtncccgglillmoaaGreatDoor.Env
open Go.RowKit Go.Shelf
attribute [local go_sem] Oper.semAt_some

/-- What Look leaves: old blocks as they were; the last one of the name, or nothing. -/
def LookEnd (w : World) (len : Nat) (nm : Nat → ByteArray) (s : ByteArray) (r1 r2 r3 r4 : Nat → Value) (e : Ending) (w' : World) : Prop :=
  Below w.heap.size w w' ∧
    ((e = .returned (.tuple #[.agg #[.slice none 0 0, .string ByteArray.empty, .int .i64 0, .slice none 0 0], .bool false]) ∧ ∀ i ∈ downTo len len, ((nm i).toList == s.toList) = false) ∨
     (∃ k x, k ≤ len ∧ downTo len k = downTo len (k - 1) ++ [x] ∧ (∀ i ∈ downTo len (k - 1), ((nm i).toList == s.toList) = false) ∧ ((nm x).toList == s.toList) = true ∧ e = .returned (.tuple #[.agg #[r1 x, r2 x, r3 x, r4 x], .bool true])))

theorem heap_setS {W : World} {b k : Nat} {c : Array Value} {t : TypeId} {v : Value} (h : W.heap[b]? = some (.cells c t)) : (W.setCell ⟨b, k, none⟩ v).heap[b]? = some (.cells (c.setIfInBounds k v) t) := by
  obtain ⟨hlt, hk⟩ := Array.getElem?_eq_some_iff.1 h
  show (W.heap.modify b _)[b]? = _
  rw [Array.getElem?_eq_getElem (by rw [Array.size_modify]; exact hlt), Array.getElem_modify_self, hk]
  rfl
theorem heap_setN {W : World} {b d k : Nat} {o : Obj} {v : Value} (hne : b ≠ d) (h : W.heap[d]? = some o) : (W.setCell ⟨b, k, none⟩ v).heap[d]? = some o := (Below.heap_setCell _ _ _ _ (fun e => hne e.symm)).trans h
theorem alloc4 (w : World) (o0 o1 o2 o3 : Obj) : (((((w.alloc o0).alloc o1).alloc o2).alloc o3).heap[w.heap.size]? = some o0 ∧ ((((w.alloc o0).alloc o1).alloc o2).alloc o3).heap[w.heap.size + 1]? = some o1) ∧ ((((w.alloc o0).alloc o1).alloc o2).alloc o3).heap[w.heap.size + 1 + 1]? = some o2 ∧ ((((w.alloc o0).alloc o1).alloc o2).alloc o3).heap[w.heap.size + 1 + 1 + 1]? = some o3 := by
  have e : ((((w.alloc o0).alloc o1).alloc o2).alloc o3).heap = (((w.heap.push o0).push o1).push o2).push o3 := rfl
  rw [e]
  refine ⟨⟨?_, ?_⟩, ?_, ?_⟩ <;> simp only [Array.getElem?_push, Array.size_push]
  · rw [if_neg (by omega), if_neg (by omega), if_neg (by omega), if_pos trivial]
  · rw [if_neg (by omega), if_neg (by omega), if_pos trivial]
  · rw [if_neg (by omega), if_pos trivial]
  · rw [if_pos trivial]
theorem look_res {W : World} {b4 b5 : Nat} {q1 q2 q3 q4 : Value} {t : Bool} (h4 : W.heap[b4]? = some (.cells #[q1, q2, q3, q4] 131)) (h5 : W.heap[b5]? = some (.cells #[.bool t] 4)) {tmps : Array Value} (e4 : tmps.getD 4 undef = .pointer (some ⟨b4, 0, none⟩)) (e5 : tmps.getD 5 undef = .pointer (some ⟨b5, 0, none⟩)) :
    (results Tryz.f57 tmps).run Tryz.prog W = .ok (.tuple #[.agg #[q1, q2, q3, q4], .bool t]) W := by
  have l4 : (loadVar 131 ⟨b4, 0, none⟩).run Tryz.prog W = .ok (.agg #[q1, q2, q3, q4]) W := run_loadVar_row W b4 131 131 #[q1, q2, q3, q4] (0, 0) _ h4 Tryz.underlying131 rfl (by kernel_rfl)
  have l5 : (loadVar 4 ⟨b5, 0, none⟩).run Tryz.prog W = .ok (.bool t) W := by
    have hc : W.cell? ⟨b5, 0, none⟩ = some (.bool t) := by simp [World.cell?, h5]
    simp [loadVar, Sem.run_bind, Tryz.isAgg4, hc]
  have e4' : tmps[4]?.getD undef = .pointer (some ⟨b4, 0, none⟩) := by simpa using e4
  have e5' : tmps[5]?.getD undef = .pointer (some ⟨b5, 0, none⟩) := by simpa using e5
  unfold results
  simp [Tryz.f57, e4', e5', asAddr, l4, l5, Sem.run_bind]
theorem look_out {F : Fence} {n : Nat} {R : Ending → World → Prop} {W : World} {b4 b5 D : Nat} {q1 q2 q3 q4 : Value} {t : Bool} (h4 : W.heap[b4]? = some (.cells #[q1, q2, q3, q4] 131)) (h5 : W.heap[b5]? = some (.cells #[.bool t] 4)) {a : Act} (e4 : a.tmps.getD 4 undef = .pointer (some ⟨b4, 0, none⟩)) (e5 : a.tmps.getD 5 undef = .pointer (some ⟨b5, 0, none⟩))
    (hK : W.heap[D]? = some (.deferred (some []))) (hd : a.defers = [{ target := .collected D, args := #[] }]) (h : R (.returned (.tuple #[.agg #[q1, q2, q3, q4], .bool t])) (W.putObj D (.deferred none))) : bodyPostM F n Tryz.prog Tryz.f57 R .ret a W := by
  have g4 : (W.putObj D (.deferred none)).heap[b4]? = some (.cells #[q1, q2, q3, q4] 131) := (((grownBy_putObj' W D (.deferred none)).block b4 (Array.getElem?_eq_some_iff.1 h4).1 (fun e => by cases e; rw [hK] at h4; cases h4))).trans h4
  have g5 : (W.putObj D (.deferred none)).heap[b5]? = some (.cells #[.bool t] 4) := (((grownBy_putObj' W D (.deferred none)).block b5 (Array.getElem?_eq_some_iff.1 h5).1 (fun e => by cases e; rw [hK] at h5; cases h5))).trans h5
  obtain ⟨tmps, defers⟩ := a
  simp only at hd e4 e5
  subst hd
  refine ⟨by simp, .inl ⟨_, _, rfl, run_takeDeferred hK, ?_⟩⟩
  exact ⟨_, look_res g4 g5 e4 e5, h⟩
set_option maxRecDepth 100000 in
set_option maxHeartbeats 2000000 in
theorem look_in (F : Fence) (n : Nat) (h14 : F.fn 57) (h25 : F.fn 99) (h32 : F.fn 123) (hro : F.round = none) (hn : 3 ≤ n) (w : World) (sv : Value) (A : Option Addr) (cap len : Nat) (hsv : sv = .slice A len cap) (hlen : len ≤ 1000000000000000000) (nm : Nat → ByteArray) (s : ByteArray) (r1 r2 r3 r4 : Nat → Value) (hk : ∀ x, ∃ p1 l1 c1 s2 n3 p4 l4 c4, r1 x = .slice p1 l1 c1 ∧ r2 x = .string s2 ∧ r3 x = .int .i64 n3 ∧ r4 x = .slice p4 l4 c4)
    (hR : Rows5 w.heap.size w sv len (fun i => .string (nm i)) r1 r2 r3 r4) :
    CallsIn F n Tryz.prog 57 #[sv, .string s] w (LookEnd w len nm s r1 r2 r3 r4) := by
  subst hsv
  have h1 : 1 ≤ n := by omega
  refine callsIn_of_wp_marks Tryz.func57 rfl h14 ?_ hro
  simp only [Tryz.ntmps57, List.size_toArray, List.length_cons, List.length_nil, Nat.reduceAdd, Nat.reduceSub, Array.replicate_succ, Array.replicate_zero, List.push_toArray, List.append_toArray, List.nil_append, List.cons_append]
  gi_wp2_with (gi_at_call 99; refine (backward_in F (n - 1) h25 hro _ _ _ _).mono ?_; rintro e w' ⟨rfl, rfl⟩)
  obtain ⟨w1, hw1⟩ : ∃ w1, ((((w.alloc (.cells #[.string s] 9)).alloc (.cells #[.slice none 0 0, .string ⟨#[]⟩, .int .i64 0, .slice none 0 0] 131)).alloc (.cells #[.bool false] 4)).alloc (.cells #[.slice A len cap] 128)) = w1 := ⟨_, rfl⟩
  have hs1 : w1.heap.size = w.heap.size + 4 := by rw [← hw1]; simp
  obtain ⟨⟨hb3, hb4⟩, hb5, hb6⟩ := alloc4 w (.cells #[.string s] 9) (.cells #[.slice none 0 0, .string ⟨#[]⟩, .int .i64 0, .slice none 0 0] 131) (.cells #[.bool false] 4) (.cells #[.slice A len cap] 128)
  rw [hw1] at hb3 hb4 hb5 hb6
  have hc6 : w1.cell? ⟨w.heap.size + 1 + 1 + 1, 0, none⟩ = some (.slice A len cap) := by simp [World.cell?, hb6]
  have hB1 : Below w.heap.size w w1 := by rw [← hw1]; exact ((((Below.refl _ w).alloc (Nat.le_refl _) _).alloc (by simp) _).alloc (by simp; omega) _).alloc (by simp; omega) _
  rw [hw1]
  have hR1 : Rows5 w1.heap.size w1 (.slice A len cap) len (fun i => .string (nm i)) r1 r2 r3 r4 := by
    rcases hR.below hB1 with h | ⟨b, off, cap', e, hb, hc⟩
    · exact .inl h
    · exact .inr ⟨b, off, cap', e, by omega, hc⟩
  refine wpIn_rangeFunc_ownH hro h1 (gf := 123) (lb := #[.pointer (some ⟨w.heap.size + 1 + 1 + 1, 0, none⟩)]) rfl h32 (enters_of Tryz.func123 (by kernel_rfl) rfl)
    (backward_stops F (n - 1) h32 hro (by omega) (w.heap.size + 1 + 1 + 1) w1.heap.size (.slice A len cap) len hlen (fun i => .string (nm i)) r1 r2 r3 r4 w1 (by omega) (by omega) (Nat.le_refl _) hc6 hR1) belowK_t (belowK_b (Nat.le_refl _)) (Below.refl _ _) (fun _ => rfl)
    (fun pre W => Below w1.heap.size w1 W ∧ ∀ i ∈ pre, ((nm i).toList == s.toList) = false)
    (fun c pre W => c = .ret ∧ ∃ pre' x, pre = pre' ++ [x] ∧ (∀ i ∈ pre', ((nm i).toList == s.toList) = false) ∧ ((nm x).toList == s.toList) = true ∧ ∃ W2 : World, Below w.heap.size w W2 ∧ w1.heap.size ≤ W2.heap.size ∧ W2.heap[w.heap.size + 1]? = some (.cells #[r1 x, r2 x, r3 x, r4 x] 131) ∧ W2.heap[w.heap.size + 1 + 1]? = some (.cells #[.bool true] 4) ∧ Below w1.heap.size W2 W)
    (OwnFrom.and (ownFrom_below (Nat.le_refl _) (Nat.le_refl _)) (ownFrom_pure _ _))
    (fun c s X Y row hs hg hr => by
      obtain ⟨e, pre', x, e1, e2, e3, W2, e4, e5, e6, e7, e8⟩ := hs
      exact ⟨e, pre', x, e1, e2, e3, W2, e4, e5, e6, e7, e8.grown hg (Nat.le_trans e5 e8.size) (fun k ek => (hr k ek).1)⟩)
    ⟨Below.refl _ _, fun i hi => by cases hi⟩
    (fun x a' W => ∃ Bx, w1.heap.size ≤ Bx ∧ W.heap[Bx]? = some (.cells #[.string (nm x), r1 x, r2 x, r3 x, r4 x] 185) ∧ a' = { tmps := #[.slice A len cap, .string s, undef, .pointer (some ⟨w.heap.size, 0, none⟩), .pointer (some ⟨w.heap.size + 1, 0, none⟩), .pointer (some ⟨w.heap.size + 1 + 1, 0, none⟩), undef, .pointer (some ⟨Bx, 0, none⟩), .slice A len cap, .func (.func 123) #[] #[.pointer (some ⟨w.heap.size + 1 + 1 + 1, 0, none⟩)], .int .i64 x, .agg #[.string (nm x), r1 x, r2 x, r3 x, r4 x], undef, undef, undef, undef, undef, undef, undef], defers := [] })
    (fun x a' s X Y row hs hg hr => by
      obtain ⟨Bx, e1, e2, e3⟩ := hs
      refine ⟨Bx, e1, (hg.block Bx (Array.getElem?_eq_some_iff.1 e2).1 (fun ek => ?_)).trans e2, e3⟩
      obtain ⟨_, o, ho, hc⟩ := hr Bx ek.symm
      rw [e2] at ho
      cases ho
      cases hc) ?assign ?body ?done ?stop
  case assign =>
    rintro l pre x W K hi hK
    obtain ⟨p1, l1, c1, s2, n3, p4, l4, c4, e1, e2, e3, e4⟩ := hk x
    simp only [e1, e2, e3, e4] at hK ⊢
    gi_wp2
    refine hK _ _ ((KeepsOthers.alloc W _).from _) ((Below.refl _ W).alloc hi.1.size _) ⟨hi.1.alloc hi.1.size _, hi.2⟩ ⟨W.heap.size, hi.1.size, World.alloc_heap_new W _, ?_⟩
    rfl
  case body =>
    rintro l pre x a' W hl ⟨r, hr⟩ ⟨hBW, hne⟩ ⟨Bx, hBx, bX, rfl⟩ hlt
    have hcn : W.cell? ⟨Bx, 0, none⟩ = some (.string (nm x)) := by simp [World.cell?, bX]
    have hc3 : W.cell? ⟨w.heap.size, 0, none⟩ = some (.string s) := by simp [World.cell?, hBW.block _ (show w.heap.size < w1.heap.size by omega), hb3]
    rcases heq : ((nm x).toList == s.toList) with _ | _
    · gi_wp2
      refine ⟨KeepsFrom.refl _ _, Below.refl _ W, hBW, fun i hi => ?_⟩
      rcases List.mem_append.1 hi with h | h
      · exact hne i h
      · rw [List.mem_singleton.1 h]; exact heq
    · have hx1 : W.cell? ⟨Bx, 1, none⟩ = some (r1 x) := by simp [World.cell?, bX]
      have hx2 : W.cell? ⟨Bx, 2, none⟩ = some (r2 x) := by simp [World.cell?, bX]
      have hx3 : W.cell? ⟨Bx, 3, none⟩ = some (r3 x) := by simp [World.cell?, bX]
      have hx4 : W.cell? ⟨Bx, 4, none⟩ = some (r4 x) := by simp [World.cell?, bX]
      have hW4 := (hBW.block _ (show w.heap.size + 1 < w1.heap.size by omega)).trans hb4
      have hW5 := (hBW.block _ (show w.heap.size + 1 + 1 < w1.heap.size by omega)).trans hb5
      have y0 : W.cell? ⟨w.heap.size + 1, 0, none⟩ = some (.slice none 0 0) := by simp [World.cell?, hW4]
      have y1 : W.cell? ⟨w.heap.size + 1, 1, none⟩ = some (.string ⟨#[]⟩) := by simp [World.cell?, hW4]
      have y2 : W.cell? ⟨w.heap.size + 1, 2, none⟩ = some (.int .i64 0) := by simp [World.cell?, hW4]
      have y3 : W.cell? ⟨w.heap.size + 1, 3, none⟩ = some (.slice none 0 0) := by simp [World.cell?, hW4]
      have z0 : W.frozen? ⟨w.heap.size + 1, 0, none⟩ = false := by simp [World.frozen?, hW4]
      have z1 : W.frozen? ⟨w.heap.size + 1, 1, none⟩ = false := by simp [World.frozen?, hW4]
      have z2 : W.frozen? ⟨w.heap.size + 1, 2, none⟩ = false := by simp [World.frozen?, hW4]
      have z3 : W.frozen? ⟨w.heap.size + 1, 3, none⟩ = false := by simp [World.frozen?, hW4]
      have y5 : W.cell? ⟨w.heap.size + 1 + 1, 0, none⟩ = some (.bool false) := by simp [World.cell?, hW5]
      have z5 : W.frozen? ⟨w.heap.size + 1 + 1, 0, none⟩ = false := by simp [World.frozen?, hW5]
      obtain ⟨p1, l1, c1, s2, n3, p4, l4, c4, e1, e2, e3, e4⟩ := hk x
      rw [e1] at hx1
      rw [e2] at hx2
      rw [e3] at hx3
      rw [e4] at hx4
      gi_wp2
      have hBw : Below w.heap.size w W := hB1.trans (hBW.mono (by omega))
      refine ⟨(((((KeepsOthers.setCell _ _ _).trans (KeepsOthers.setCell _ _ _)).trans (KeepsOthers.setCell _ _ _)).trans (KeepsOthers.setCell _ _ _)).trans (KeepsOthers.setCell _ _ _)).from _, rfl, pre, x, rfl, hne, heq, _,
        ((((hBw.setCell (p := ⟨w.heap.size + 1, 0, none⟩) (by simp) _).setCell (p := ⟨w.heap.size + 1, 1, none⟩) (by simp) _).setCell (p := ⟨w.heap.size + 1, 2, none⟩) (by simp) _).setCell (p := ⟨w.heap.size + 1, 3, none⟩) (by simp) _).setCell (p := ⟨w.heap.size + 1 + 1, 0, none⟩) (by simp; omega) _, ?_, ?_, ?_, Below.refl _ _⟩
      · simpa using hBW.size
      · rw [Below.heap_setCell _ _ _ _ (by simp), heap_setS (heap_setS (heap_setS (heap_setS hW4)))]
        rw [e1, e2, e3, e4]
        rfl
      · rw [heap_setS (heap_setN (by simp) (heap_setN (by simp) (heap_setN (by simp) (heap_setN (by simp) hW5))))]
        rfl
  case done =>
    rintro D ys W hD rfl ⟨hBW, hne⟩ hK
    have hW4 := (hBW.block _ (show w.heap.size + 1 < w1.heap.size by omega)).trans hb4
    have hW5 := (hBW.block _ (show w.heap.size + 1 + 1 < w1.heap.size by omega)).trans hb5
    have y0 : W.cell? ⟨w.heap.size + 1, 0, none⟩ = some (.slice none 0 0) := by simp [World.cell?, hW4]
    have y1 : W.cell? ⟨w.heap.size + 1, 1, none⟩ = some (.string ⟨#[]⟩) := by simp [World.cell?, hW4]
    have y2 : W.cell? ⟨w.heap.size + 1, 2, none⟩ = some (.int .i64 0) := by simp [World.cell?, hW4]
    have y3 : W.cell? ⟨w.heap.size + 1, 3, none⟩ = some (.slice none 0 0) := by simp [World.cell?, hW4]
    have z0 : W.frozen? ⟨w.heap.size + 1, 0, none⟩ = false := by simp [World.frozen?, hW4]
    have z1 : W.frozen? ⟨w.heap.size + 1, 1, none⟩ = false := by simp [World.frozen?, hW4]
    have z2 : W.frozen? ⟨w.heap.size + 1, 2, none⟩ = false := by simp [World.frozen?, hW4]
    have z3 : W.frozen? ⟨w.heap.size + 1, 3, none⟩ = false := by simp [World.frozen?, hW4]
    have y5 : W.cell? ⟨w.heap.size + 1 + 1, 0, none⟩ = some (.bool false) := by simp [World.cell?, hW5]
    have z5 : W.frozen? ⟨w.heap.size + 1 + 1, 0, none⟩ = false := by simp [World.frozen?, hW5]
    gi_wp2
    have hBw : Below w.heap.size w W := hB1.trans (hBW.mono (by omega))
    have hKO := ((((KeepsOthers.setCell W ⟨w.heap.size + 1, 0, none⟩ (.slice none 0 0)).trans (KeepsOthers.setCell _ ⟨w.heap.size + 1, 1, none⟩ (.string ⟨#[]⟩))).trans (KeepsOthers.setCell _ ⟨w.heap.size + 1, 2, none⟩ (.int .i64 0))).trans (KeepsOthers.setCell _ ⟨w.heap.size + 1, 3, none⟩ (.slice none 0 0))).trans (KeepsOthers.setCell _ ⟨w.heap.size + 1 + 1, 0, none⟩ (.bool false))
    have hBf := ((((hBw.setCell (p := ⟨w.heap.size + 1, 0, none⟩) (by simp) (.slice none 0 0)).setCell (p := ⟨w.heap.size + 1, 1, none⟩) (by simp) (.string ⟨#[]⟩)).setCell (p := ⟨w.heap.size + 1, 2, none⟩) (by simp) (.int .i64 0)).setCell (p := ⟨w.heap.size + 1, 3, none⟩) (by simp) (.slice none 0 0)).setCell (p := ⟨w.heap.size + 1 + 1, 0, none⟩) (by simp; omega) (.bool false)
    have k4 := heap_setN (b := w.heap.size + 1 + 1) (k := 0) (v := .bool false) (by simp) (heap_setS (k := 3) (v := .slice none 0 0) (heap_setS (k := 2) (v := .int .i64 0) (heap_setS (k := 1) (v := .string ⟨#[]⟩) (heap_setS (k := 0) (v := .slice none 0 0) hW4))))
    have k5 := heap_setS (k := 0) (v := .bool false) (heap_setN (b := w.heap.size + 1) (k := 3) (v := .slice none 0 0) (by simp) (heap_setN (b := w.heap.size + 1) (k := 2) (v := .int .i64 0) (by simp) (heap_setN (b := w.heap.size + 1) (k := 1) (v := .string ⟨#[]⟩) (by simp) (heap_setN (b := w.heap.size + 1) (k := 0) (v := .slice none 0 0) (by simp) hW5))))
    have hKf := hKO.same D _ hK rfl
    exact look_out (q1 := .slice none 0 0) (q2 := .string ⟨#[]⟩) (q3 := .int .i64 0) (q4 := .slice none 0 0) (t := false) k4 k5 rfl rfl hKf rfl ⟨hBf.trans (belowK_b (w := w) (Nat.le_refl _) _ D _ _ (by omega) hKf rfl rfl), .inl ⟨rfl, hne⟩⟩
  case stop =>
    rintro D c pre W hD ⟨k, hk, rfl⟩ ⟨rfl, pre', x, e1, e2, e3, W2, e4, e5, e6, e7, e8⟩ hK
    gi_wp2
    have k4 := (e8.block _ (show w.heap.size + 1 < w1.heap.size by omega)).trans e6
    have k5 := (e8.block _ (show w.heap.size + 1 + 1 < w1.heap.size by omega)).trans e7
    refine look_out k4 k5 rfl rfl hK rfl ⟨(e4.trans (e8.mono (by omega))).trans (belowK_b (w := w) (Nat.le_refl _) _ D _ _ (by omega) hK rfl rfl), .inr ⟨k, x, hk, ?_, ?_, e3, rfl⟩⟩
    · cases k with
      | zero => exact absurd e1 (by simp [downTo])
      | succ k =>
        rw [downTo_succ] at e1 ⊢
        obtain ⟨q1, q2⟩ := List.append_inj' e1 rfl
        simp only [Nat.add_sub_cancel, q2]
    · cases k with
      | zero => exact absurd e1 (by simp [downTo])
      | succ k =>
        rw [downTo_succ] at e1
        obtain ⟨q1, q2⟩ := List.append_inj' e1 rfl
        simp only [Nat.add_sub_cancel]
        rw [q1]; exact e2
end Go.Proofs.YtncccgglillmoaaGreatDoor.Env
