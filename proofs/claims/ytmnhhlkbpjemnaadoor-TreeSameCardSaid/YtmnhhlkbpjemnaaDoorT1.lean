/- The laid table of white space at the beginning of a call; expressions among a row's arguments, opened. -/
import Derived.Test.YtmnhhlkbpjemnaaDoorT0
import Derived.Test.YtmnhhlkbpjemnaaDoorEwJ
import Derived.Test.YtmnhhlkbpjemnaaDoorEvY
import Derived.Test.YtmnhhlkbpjemnaaDoorTie
import Derived.Test.YtmnhhlkbpjemnaaDoorCards
import Derived.LaidMore
import Derived.Stop.Joined
import Derived.SevenTiedAt
set_option autoImplicit false
set_option maxRecDepth 100000
namespace Go.Proofs.YtmnhhlkbpjemnaaDoor.Env
open Go.Ev Go.Ev.Nd Go.ChangeShapes Go.WideShapes Go.ChangeAt Go.RowKit

abbrev laidL : List (String × DataW Unit) := [("unicode.White_Space", Rows.laid_unicode_White_Space), ("strings.asciiSpace", Rows.laid_strings_asciiSpace)]
theorem own : ownKnob Tryd.prog.godebug = none := by kernel_rfl
theorem laidOut : laidOutB Tryd.prog = true := by kernel_rfl
theorem door_met (os : Os) (args : Array Value) : laidMetH Tryd.prog laidL ((World.doorLaid Tryd.prog 4000 os).forCall (fun _ _ => 0) ⟨#[], args, []⟩).memory :=
  laidMetH_of_parts3 (fuel := 8) (laidMet_of_run' 8 (by kernel_rfl) (by kernel_rfl)) (by kernel_rfl) (by kernel_rfl)
theorem shaped (os : Os) (args : Array Value) : ((World.doorLaid Tryd.prog 4000 os).forCall (fun _ _ => 0) ⟨#[], args, []⟩).Shaped Tryd.prog := World.shaped_of_RefB (by kernel_rfl) (by kernel_rfl)
theorem gA : Tryd.prog.globalNamed "strings.asciiSpace" = some 0 := by kernel_rfl
theorem tA : (Tryd.prog.globals[0]?).map (·.type) = some 94 := by kernel_rfl
theorem tab_of_laid {W : World} (h : laidMetH Tryd.prog laidL W) : Lib.TabIs Tryd.prog W "strings.asciiSpace" .u8 Lib.asciiSpaceTab := by
  rw [MakeChecks.laidMetH_plain _ _ _ (by kernel_rfl)] at h
  obtain ⟨ps, ⟨g0, t0, cs0, f0, p0, q0, hg0, ht0, hv0, hd0, ⟨g1, t1, cs1, f1, p1, q1, hg1, ht1, hv1, hd1, _, _⟩, _⟩, _, _⟩ := h
  obtain rfl := Option.some.inj (gA.symm.trans hg1)
  obtain rfl := Option.some.inj (tA.symm.trans ht1)
  unfold Lib.TabIs
  rw [hv1]
  have e : Rows.laid_strings_asciiSpace (H := Unit) = Lib.tabData .u8 Lib.asciiSpaceTab := by kernel_rfl
  rw [e] at hd1
  rw [← Lib.cells_of_tab Tryd.underlying94 Tryd.underlying5 (by kernel_rfl) (by kernel_rfl) hd1]
theorem tab_stays {W W' : World} (h : Lib.TabIs Tryd.prog W "strings.asciiSpace" .u8 Lib.asciiSpaceTab) (e : W'.heap[(0 : Nat)]? = W.heap[(0 : Nat)]?) : Lib.TabIs Tryd.prog W' "strings.asciiSpace" .u8 Lib.asciiSpaceTab := by
  unfold Lib.TabIs World.var? at h ⊢
  rw [gA] at h ⊢
  simp only [Option.bind_some] at h ⊢
  rw [e]
  exact h
theorem ka_of_laid {W : World} (h : laidMetH Tryd.prog laidL W) : ∀ p ∈ (default : KA0).ka, p.2 W.heap[p.1]? ∧ p.1 < W.heap.size := by
  have ht := tab_of_laid h
  intro p hp
  obtain rfl : p = _ := List.mem_singleton.1 hp
  refine ⟨fun w' e => tab_stays ht e, ?_⟩
  unfold Lib.TabIs World.var? at ht
  rw [gA] at ht
  simp only [Option.bind_some] at ht
  show 0 < W.heap.size
  cases hs : W.heap[(0 : Nat)]? with
  | none => rw [hs] at ht; simp at ht
  | some o => exact (Array.getElem?_eq_some_iff.1 hs).1

/-! ### Expressions, handed in -/
theorem tyS : closedB Tryd.prog [24, 22, 9, 3, 2] = true := by kernel_rfl
abbrev NB : Nat := 140737488351232
theorem bytes_ok (s : ByteArray) (h : s.size ≤ NB) : okS (bytesOf s) := by
  refine ⟨?_, fun x hx => ?_⟩
  · simp only [bytesOf, List.length_map, Array.length_toList]
    exact h
  · simp only [bytesOf, List.mem_map] at hx
    obtain ⟨b, _, rfl⟩ := hx
    exact b.toNat_lt
theorem shpn_str {cs : List AV} {t : Nat} (hu : Tryd.prog.underlying t = some .string) (h : ShpN Tryd.prog NB t cs) : ∃ s : List Nat, cs = [.str s] ∧ okS s := by
  cases h with
  | str _ s h hs hn => exact ⟨_, rfl, bytes_ok s hn⟩
  | int _ _ _ h _ => rw [hu] at h; cases h
  | bool _ _ h => rw [hu] at h; cases h
  | sl _ _ _ h => rw [hu] at h; cases h
  | st _ _ _ h => rw [hu] at h; cases h
theorem shpn_int {cs : List AV} {t : Nat} (hu : Tryd.prog.underlying t = some (.int .i64)) (h : ShpN Tryd.prog NB t cs) : ∃ n : Int, cs = [.int .i64 n] ∧ -9223372036854775808 ≤ n ∧ n ≤ 9223372036854775807 := by
  cases h with
  | int _ k n h hw =>
    rw [hu] at h
    cases h
    refine ⟨n, rfl, ?_⟩
    simp [Lit.wf, IntKind.min, IntKind.max, IntKind.signed, IntKind.bits] at hw
    omega
  | str _ _ h => rw [hu] at h; cases h
  | bool _ _ h => rw [hu] at h; cases h
  | sl _ _ _ h => rw [hu] at h; cases h
  | st _ _ _ h => rw [hu] at h; cases h
theorem shp_nd {t : Nat} {cs : List AV} (h : ShpN Tryd.prog NB t cs) :
    (t = 24 → ∃ T : Nd, cs = [.str T.op, .str T.name, .str T.arg, .int .i64 T.n, .int .i64 T.at_, .sl .no (avs T.kids)] ∧ fit T) ∧ (t = 22 → ∃ ks : List Nd, cs = [.sl .no (avs ks)] ∧ ks.length ≤ 9223372036854775807 ∧ fits ks) := by
  induction h with
  | int t k n h _ => exact ⟨(by rintro rfl; rw [Tryd.underlying24] at h; cases h), (by rintro rfl; rw [Tryd.underlying22] at h; cases h)⟩
  | bool t b h => exact ⟨(by rintro rfl; rw [Tryd.underlying24] at h; cases h), (by rintro rfl; rw [Tryd.underlying22] at h; cases h)⟩
  | str t s h _ _ => exact ⟨(by rintro rfl; rw [Tryd.underlying24] at h; cases h), (by rintro rfl; rw [Tryd.underlying22] at h; cases h)⟩
  | sl t e els h hl hn hx ha ih =>
    refine ⟨(by rintro rfl; rw [Tryd.underlying24] at h; cases h), ?_⟩
    rintro rfl
    rw [Tryd.underlying22] at h
    cases h
    rw [Tryd.underlying24] at ha
    have : ∀ l : List AV, (∀ x ∈ l, ∃ T : Nd, x = T.av ∧ fit T) → ∃ ks : List Nd, l = avs ks ∧ fits ks := by
      intro l
      induction l with
      | nil => intro _; exact ⟨[], rfl, trivial⟩
      | cons x l ih =>
        intro h
        obtain ⟨T, rfl, hT⟩ := h x (List.mem_cons_self ..)
        obtain ⟨ks, rfl, hk⟩ := ih fun x hx => h x (List.mem_cons_of_mem _ hx)
        exact ⟨T :: ks, rfl, hT, hk⟩
    obtain ⟨ks, rfl, hk⟩ := this els fun x hx => by
      obtain ⟨cs, rfl⟩ := ha x hx
      obtain ⟨T, hT, hf⟩ := (ih _ hx).1 rfl
      exact ⟨T, (by rw [cells_ T]; exact congrArg AV.agg hT), hf⟩
    refine ⟨ks, rfl, ?_, hk⟩
    rw [avs_len] at hl
    exact hl
  | st t fs ps h hf hp ih =>
    refine ⟨?_, (by rintro rfl; rw [Tryd.underlying22] at h; cases h)⟩
    rintro rfl
    rw [Tryd.underlying24] at h
    cases h
    match ps, hf with
    | [(t0, a0), (t1, a1), (t2, a2), (t3, a3), (t4, a4), (t5, a5)], hf =>
      simp at hf
      obtain ⟨rfl, rfl, rfl, rfl, rfl, rfl⟩ := hf
      have m1 := List.mem_cons_of_mem (9, a0) (List.mem_cons_self (a := (9, a1)) (l := [(9, a2), (2, a3), (3, a4), (22, a5)]))
      obtain ⟨s0, e0, k0⟩ := shpn_str Tryd.underlying9 (hp (9, a0) (by simp))
      obtain ⟨s1, e1, k1⟩ := shpn_str Tryd.underlying9 (hp (9, a1) (by simp))
      obtain ⟨s2, e2, k2⟩ := shpn_str Tryd.underlying9 (hp (9, a2) (by simp))
      obtain ⟨n3, e3, k3⟩ := shpn_int Tryd.underlying2 (hp (2, a3) (by simp))
      obtain ⟨n4, e4, k4⟩ := shpn_int Tryd.underlying3 (hp (3, a4) (by simp))
      obtain ⟨ks, e5, hl, hk⟩ := (ih (22, a5) (by simp)).2 rfl
      simp only at e0 e1 e2 e3 e4 e5
      subst e0; subst e1; subst e2; subst e3; subst e4; subst e5
      exact ⟨.mk s0 s1 s2 n3 n4 ks, rfl, k0, k1, k2, k3, k4, hl, hk⟩
    | [], hf => simp at hf
    | [_], hf => simp at hf
    | [_, _], hf => simp at hf
    | [_, _, _], hf => simp at hf
    | [_, _, _, _], hf => simp at hf
    | [_, _, _, _, _], hf => simp at hf
    | _ :: _ :: _ :: _ :: _ :: _ :: _ :: _, hf => simp at hf
theorem agg_of {W : World} {base : Nat} {t : Nat} {v : Value} {fs : Array Field} (hu : Tryd.prog.underlying t = some (.struct fs)) (hok : Value.okWide Tryd.prog W .any base t v) : ∃ c, v = .agg c := by
  unfold Value.okWide at hok
  rw [hu] at hok
  obtain ⟨c, rfl, _⟩ := hok
  exact ⟨c, rfl⟩
theorem open_nd {H' : Type} {enc : TypeId × Value → H'} {W : World} {sp : Nat → Bool} {held : Bool} {base : Nat} {v : Value} {d : DataW H'} {ps : List MemPlace} (hok : Value.okWide Tryd.prog W .any base 24 v) (h : DataW.Trod enc Tryd.prog W 0 sp held 24 v d ps) (hN : ∀ n ∈ d.weights Tryd.prog 24, n ≤ NB) :
    ∃ t : Nd, fit t ∧ VR (G0 W) W v t.av := by
  obtain ⟨cs, h1, h2⟩ := trodAll_openN tyS (by simp) h hN
  obtain ⟨T, rfl, hf⟩ := (shp_nd h2).1 rfl
  obtain ⟨c, rfl⟩ := agg_of Tryd.underlying24 hok
  refine ⟨T, hf, ?_⟩
  rw [cells_ T]
  simp only [Value.cells] at h1
  exact .agg c _ (by have := h1.1; simpa using this) (fun i u x hu hx => h1.2 i u x (by simpa using hu) hx)
end Go.Proofs.YtmnhhlkbpjemnaaDoor.Env
