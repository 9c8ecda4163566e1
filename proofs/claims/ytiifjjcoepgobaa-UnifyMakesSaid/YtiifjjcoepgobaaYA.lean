/- Types as arguments; what asks of a type. -/
import Derived.Test.YtiifjjcoepgobaaEwC
import Derived.Test.YtiifjjcoepgobaaYFacts
set_option autoImplicit false
set_option maxRecDepth 100000
set_option linter.unusedSimpArgs false
set_option linter.unusedVariables false
namespace Go.Proofs.Ytiifjjcoepgobaa.Env
open Go.Ev

/-! ### Types as arguments -/
mutual
def fit : Ty → Prop
  | .mk o n ks => ks.length ≤ 9223372036854775807 ∧ (-9223372036854775808 ≤ n ∧ n ≤ 9223372036854775807) ∧ fits ks
def fits : List Ty → Prop
  | [] => True
  | t :: l => fit t ∧ fits l
end
theorem fits_mem : ∀ {l : List Ty}, fits l ↔ ∀ t ∈ l, fit t
  | [] => by simp [fits]
  | t :: l => by simp [fits, fits_mem (l := l)]
theorem tyS : closedB Try.prog [25, 23, 9, 3] = true := by kernel_rfl
theorem shp_str {cs : List AV} (h : Shp Try.prog 9 cs) : ∃ s : ByteArray, cs = [.str (bytesOf s)] := by
  cases h with
  | str _ s _ _ => exact ⟨s, rfl⟩
  | int _ _ _ h => rw [Try.underlying9] at h; cases h
  | bool _ _ h => rw [Try.underlying9] at h; cases h
  | sl _ _ _ h => rw [Try.underlying9] at h; cases h
  | st _ _ _ h => rw [Try.underlying9] at h; cases h
theorem shp_int {cs : List AV} (h : Shp Try.prog 3 cs) : ∃ n : Int, cs = [.int .i64 n] ∧ (-9223372036854775808 ≤ n ∧ n ≤ 9223372036854775807) := by
  cases h with
  | str _ _ h => rw [Try.underlying3] at h; cases h
  | int _ _ n h hw =>
    rw [Try.underlying3] at h
    cases h
    refine ⟨n, rfl, ?_⟩
    simp [Lit.wf, IntKind.min, IntKind.max, IntKind.signed, IntKind.bits] at hw
    omega
  | bool _ _ h => rw [Try.underlying3] at h; cases h
  | sl _ _ _ h => rw [Try.underlying3] at h; cases h
  | st _ _ _ h => rw [Try.underlying3] at h; cases h
theorem shp_ty {t : Nat} {cs : List AV} (h : Shp Try.prog t cs) :
    (t = 25 → ∃ T : Ty, cs = [.str T.op, .int .i64 T.n, .sl .no (Ty.avs T.kids)] ∧ fit T) ∧ (t = 23 → ∃ ks : List Ty, cs = [.sl .no (Ty.avs ks)] ∧ ks.length ≤ 9223372036854775807 ∧ fits ks) := by
  induction h with
  | int t k n h _ => exact ⟨(by rintro rfl; rw [Try.underlying25] at h; cases h), (by rintro rfl; rw [Try.underlying23] at h; cases h)⟩
  | bool t b h => exact ⟨(by rintro rfl; rw [Try.underlying25] at h; cases h), (by rintro rfl; rw [Try.underlying23] at h; cases h)⟩
  | str t s h _ => exact ⟨(by rintro rfl; rw [Try.underlying25] at h; cases h), (by rintro rfl; rw [Try.underlying23] at h; cases h)⟩
  | sl t e els h hl hx ha ih =>
    refine ⟨(by rintro rfl; rw [Try.underlying25] at h; cases h), ?_⟩
    rintro rfl
    rw [Try.underlying23] at h
    cases h
    rw [Try.underlying25] at ha
    have : ∀ l : List AV, (∀ x ∈ l, ∃ T : Ty, x = T.av ∧ fit T) → ∃ ks : List Ty, l = Ty.avs ks ∧ fits ks := by
      intro l
      induction l with
      | nil => intro _; exact ⟨[], rfl, trivial⟩
      | cons x l ih =>
        intro h
        obtain ⟨T, rfl, hT⟩ := h x (List.mem_cons_self ..)
        obtain ⟨ks, rfl, hk⟩ := ih fun x hx => h x (List.mem_cons_of_mem _ hx)
        exact ⟨T :: ks, rfl, hT, hk⟩
    obtain ⟨ks, rfl, hk⟩ := this els fun x hx => by
      obtain ⟨cs, rfl⟩ := ha x hx
      obtain ⟨T, hT, hf⟩ := (ih _ hx).1 rfl
      cases T
      exact ⟨_, (by rw [Ty.av]; exact congrArg AV.agg hT), hf⟩
    refine ⟨ks, rfl, ?_, hk⟩
    rw [Ty.avs_map, List.length_map] at hl
    exact hl
  | st t fs ps h hf hp ih =>
    refine ⟨?_, (by rintro rfl; rw [Try.underlying23] at h; cases h)⟩
    rintro rfl
    rw [Try.underlying25] at h
    cases h
    match ps, hf with
    | [(t0, a0), (t1, a1), (t2, a2)], hf =>
      simp at hf
      obtain ⟨rfl, rfl, rfl⟩ := hf
      obtain ⟨s, rfl⟩ := shp_str (hp _ (List.mem_cons_self ..))
      obtain ⟨n, rfl, hn⟩ := shp_int (hp _ (List.mem_cons_of_mem _ (List.mem_cons_self ..)))
      obtain ⟨ks, e, hl, hk⟩ := (ih _ (List.mem_cons_of_mem _ (List.mem_cons_of_mem _ (List.mem_cons_self ..)))).2 rfl
      simp only at e
      subst e
      exact ⟨.mk (bytesOf s) n ks, rfl, hl, hn, hk⟩
    | [], hf => simp at hf
    | [_], hf => simp at hf
    | [_, _], hf => simp at hf
    | _ :: _ :: _ :: _ :: _, hf => simp at hf
end Go.Proofs.Ytiifjjcoepgobaa.Env
