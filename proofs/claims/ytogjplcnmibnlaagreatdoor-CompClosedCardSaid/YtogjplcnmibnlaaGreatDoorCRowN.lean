/- Expressions and rows of strings among a row's arguments, opened. -/
import Derived.Test.YtogjplcnmibnlaaGreatDoorCRow
import Derived.Test.YtogjplcnmibnlaaGreatDoorEwD
import Derived.Test.YtogjplcnmibnlaaGreatDoorEwJ
import Derived.Test.YtogjplcnmibnlaaGreatDoorEvY
import Derived.Test.YtogjplcnmibnlaaGreatDoorEvV
set_option autoImplicit false
set_option maxRecDepth 100000
namespace Go.Proofs.YtogjplcnmibnlaaGreatDoor.Env
open Go.Ev Go.Ev.Nd Go.ChangeShapes Go.WideShapes Go.ChangeAt Go.RowKit

/-! ### Expressions, handed in -/
theorem tyS : closedB Tryz.prog [24, 22, 9, 3, 2] = true := by kernel_rfl
abbrev NB : Nat := 140737488351232
theorem bytes_ok (s : ByteArray) (h : s.size ≤ NB) : okS (bytesOf s) := by
  refine ⟨?_, fun x hx => ?_⟩
  · simp only [bytesOf, List.length_map, Array.length_toList]
    exact h
  · simp only [bytesOf, List.mem_map] at hx
    obtain ⟨b, _, rfl⟩ := hx
    exact b.toNat_lt
theorem shpn_str {cs : List AV} {t : Nat} (hu : Tryz.prog.underlying t = some .string) (h : ShpN Tryz.prog NB t cs) : ∃ s : List Nat, cs = [.str s] ∧ okS s := by
  cases h with
  | str _ s h hs hn => exact ⟨_, rfl, bytes_ok s hn⟩
  | int _ _ _ h _ => rw [hu] at h; cases h
  | bool _ _ h => rw [hu] at h; cases h
  | sl _ _ _ h => rw [hu] at h; cases h
  | st _ _ _ h => rw [hu] at h; cases h
theorem shpn_int {cs : List AV} {t : Nat} (hu : Tryz.prog.underlying t = some (.int .i64)) (h : ShpN Tryz.prog NB t cs) : ∃ n : Int, cs = [.int .i64 n] ∧ -9223372036854775808 ≤ n ∧ n ≤ 9223372036854775807 := by
  cases h with
  | int _ k n h hw =>
    rw [hu] at h
    cases h
    refine ⟨n, rfl, ?_⟩
    simp [Lit.wf, IntKind.min, IntKind.max, IntKind.signed, IntKind.bits] at hw
    omega
  | str _ _ h => rw [hu] at h; cases h
  | bool _ _ h => rw [hu] at h; cases h
  | sl _ _ _ h => rw [hu] at h; cases h
  | st _ _ _ h => rw [hu] at h; cases h
theorem shp_nd {t : Nat} {cs : List AV} (h : ShpN Tryz.prog NB t cs) :
    (t = 24 → ∃ T : Nd, cs = [.str T.op, .str T.name, .str T.arg, .int .i64 T.n, .int .i64 T.at_, .sl .no (avs T.kids)] ∧ fit T) ∧ (t = 22 → ∃ ks : List Nd, cs = [.sl .no (avs ks)] ∧ ks.length ≤ 9223372036854775807 ∧ fits ks) := by
  induction h with
  | int t k n h _ => exact ⟨(by rintro rfl; rw [Tryz.underlying24] at h; cases h), (by rintro rfl; rw [Tryz.underlying22] at h; cases h)⟩
  | bool t b h => exact ⟨(by rintro rfl; rw [Tryz.underlying24] at h; cases h), (by rintro rfl; rw [Tryz.underlying22] at h; cases h)⟩
  | str t s h _ _ => exact ⟨(by rintro rfl; rw [Tryz.underlying24] at h; cases h), (by rintro rfl; rw [Tryz.underlying22] at h; cases h)⟩
  | sl t e els h hl hn hx ha ih =>
    refine ⟨(by rintro rfl; rw [Tryz.underlying24] at h; cases h), ?_⟩
    rintro rfl
    rw [Tryz.underlying22] at h
    cases h
    rw [Tryz.underlying24] at ha
    have : ∀ l : List AV, (∀ x ∈ l, ∃ T : Nd, x = T.av ∧ fit T) → ∃ ks : List Nd, l = avs ks ∧ fits ks := by
      intro l
      induction l with
      | nil => intro _; exact ⟨[], rfl, trivial⟩
      | cons x l ih =>
        intro h
        obtain ⟨T, rfl, hT⟩ := h x (List.mem_cons_self ..)
        obtain ⟨ks, rfl, hk⟩ := ih fun x hx => h x (List.mem_cons_of_mem _ hx)
        exact ⟨T :: ks, rfl, hT, hk⟩
    obtain ⟨ks, rfl, hk⟩ := this els fun x hx => by
      obtain ⟨cs, rfl⟩ := ha x hx
      obtain ⟨T, hT, hf⟩ := (ih _ hx).1 rfl
      exact ⟨T, (by rw [cells_ T]; exact congrArg AV.agg hT), hf⟩
    refine ⟨ks, rfl, ?_, hk⟩
    rw [avs_len] at hl
    exact hl
  | st t fs ps h hf hp ih =>
    refine ⟨?_, (by rintro rfl; rw [Tryz.underlying22] at h; cases h)⟩
    rintro rfl
    rw [Tryz.underlying24] at h
    cases h
    match ps, hf with
    | [(t0, a0), (t1, a1), (t2, a2), (t3, a3), (t4, a4), (t5, a5)], hf =>
      simp at hf
      obtain ⟨rfl, rfl, rfl, rfl, rfl, rfl⟩ := hf
      have m1 := List.mem_cons_of_mem (9, a0) (List.mem_cons_self (a := (9, a1)) (l := [(9, a2), (2, a3), (3, a4), (22, a5)]))
      obtain ⟨s0, e0, k0⟩ := shpn_str Tryz.underlying9 (hp (9, a0) (by simp))
      obtain ⟨s1, e1, k1⟩ := shpn_str Tryz.underlying9 (hp (9, a1) (by simp))
      obtain ⟨s2, e2, k2⟩ := shpn_str Tryz.underlying9 (hp (9, a2) (by simp))
      obtain ⟨n3, e3, k3⟩ := shpn_int Tryz.underlying2 (hp (2, a3) (by simp))
      obtain ⟨n4, e4, k4⟩ := shpn_int Tryz.underlying3 (hp (3, a4) (by simp))
      obtain ⟨ks, e5, hl, hk⟩ := (ih (22, a5) (by simp)).2 rfl
      simp only at e0 e1 e2 e3 e4 e5
      subst e0; subst e1; subst e2; subst e3; subst e4; subst e5
      exact ⟨.mk s0 s1 s2 n3 n4 ks, rfl, k0, k1, k2, k3, k4, hl, hk⟩
    | [], hf => simp at hf
    | [_], hf => simp at hf
    | [_, _], hf => simp at hf
    | [_, _, _], hf => simp at hf
    | [_, _, _, _], hf => simp at hf
    | [_, _, _, _, _], hf => simp at hf
    | _ :: _ :: _ :: _ :: _ :: _ :: _ :: _, hf => simp at hf
theorem agg_of {W : World} {base : Nat} {t : Nat} {v : Value} {fs : Array Field} (hu : Tryz.prog.underlying t = some (.struct fs)) (hok : Value.okWide Tryz.prog W .any base t v) : ∃ c, v = .agg c := by
  unfold Value.okWide at hok
  rw [hu] at hok
  obtain ⟨c, rfl, _⟩ := hok
  exact ⟨c, rfl⟩
theorem open_nd {H' : Type} {enc : TypeId × Value → H'} {W : World} {sp : Nat → Bool} {held : Bool} {base : Nat} {v : Value} {d : DataW H'} {ps : List MemPlace} (hok : Value.okWide Tryz.prog W .any base 24 v) (h : DataW.Trod enc Tryz.prog W 0 sp held 24 v d ps) (hN : ∀ n ∈ d.weights Tryz.prog 24, n ≤ NB) :
    ∃ t : Nd, fit t ∧ VR (G0 W) W v t.av := by
  obtain ⟨cs, h1, h2⟩ := trodAll_openN tyS (by simp) h hN
  obtain ⟨T, rfl, hf⟩ := (shp_nd h2).1 rfl
  obtain ⟨c, rfl⟩ := agg_of Tryz.underlying24 hok
  refine ⟨T, hf, ?_⟩
  rw [cells_ T]
  simp only [Value.cells] at h1
  exact .agg c _ (by have := h1.1; simpa using this) (fun i u x hu hx => h1.2 i u x (by simpa using hu) hx)
theorem tyL : closedB Tryz.prog [25, 9] = true := by kernel_rfl
theorem shp_strs {cs : List AV} (h : ShpN Tryz.prog NB 25 cs) : ∃ L : List Str, cs = [.sl .no (Go.Ev.strs L)] ∧ (∀ x ∈ L, okS x.s) ∧ L.length ≤ 9223372036854775807 := by
  cases h with
  | int _ _ _ h _ => rw [Tryz.underlying25] at h; cases h
  | bool _ _ h => rw [Tryz.underlying25] at h; cases h
  | str _ _ h => rw [Tryz.underlying25] at h; cases h
  | st _ _ _ h => rw [Tryz.underlying25] at h; cases h
  | sl _ e els h hl hn hx ha =>
    rw [Tryz.underlying25] at h
    cases h
    rw [Tryz.underlying9] at ha
    have : ∀ l : List AV, (∀ x ∈ l, ∃ s : List Nat, x = .str s ∧ okS s) → ∃ L : List Str, l = Go.Ev.strs L ∧ ∀ x ∈ L, okS x.s := by
      intro l
      induction l with
      | nil => intro _; exact ⟨[], rfl, by simp⟩
      | cons x l ih =>
        intro h
        obtain ⟨s, rfl, hs⟩ := h x (List.mem_cons_self ..)
        obtain ⟨L, rfl, hL⟩ := ih fun x hx => h x (List.mem_cons_of_mem _ hx)
        exact ⟨⟨s⟩ :: L, rfl, by intro y hy; rcases List.mem_cons.1 hy with rfl | hy; exact hs; exact hL y hy⟩
    obtain ⟨L, rfl, hL⟩ := this els fun x hx' => by
      obtain ⟨s, e, k⟩ := shpn_str Tryz.underlying9 (hx x hx')
      have := ha x hx'
      simp only at this
      rw [this] at e
      injection e with e _
      exact ⟨s, e, k⟩
    refine ⟨L, rfl, hL, ?_⟩
    rw [Go.Ev.strs_len] at hl
    exact hl
theorem open_strs {H' : Type} {enc : TypeId × Value → H'} {W : World} {sp : Nat → Bool} {held : Bool} {base : Nat} {v : Value} {d : DataW H'} {ps : List MemPlace} (hok : Value.okWide Tryz.prog W .any base 25 v) (h : DataW.Trod enc Tryz.prog W 0 sp held 25 v d ps) (hN : ∀ n ∈ d.weights Tryz.prog 25, n ≤ NB) :
    ∃ L : List Str, (∀ x ∈ L, okS x.s) ∧ L.length ≤ 9223372036854775807 ∧ VR (G0 W) W v (.sl .no (Go.Ev.strs L)) := by
  obtain ⟨cs, h1, h2⟩ := trodAll_openN tyL (by simp) h hN
  obtain ⟨L, rfl, hf, hl⟩ := shp_strs h2
  refine ⟨L, hf, hl, ?_⟩
  have hone : v.cells = #[v] := by
    cases v with
    | agg c =>
      unfold Value.okWide at hok
      rw [Tryz.underlying25] at hok
      simp only at hok
      unfold Cell.okWide at hok
      rw [Tryz.underlying25] at hok
      simp only at hok
      unfold Cell.ok at hok
      rw [Tryz.underlying25] at hok
      simp at hok
    | _ => rfl
  rw [hone] at h1
  exact h1.2 0 v _ rfl rfl
end Go.Proofs.YtogjplcnmibnlaaGreatDoor.Env
