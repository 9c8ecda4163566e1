/- Each operation of the abstract machine is the model's: pieces, elements, fields. -/
import Derived.Test.YtiifjjcoepgobaaEvJ
set_option autoImplicit false
set_option linter.unusedVariables false
set_option linter.unusedSimpArgs false
namespace Go.Ev

section
variable {P : Program} {G : Gh} {w : World} {h : H}

def iv (n : Nat) : Value := .int .i64 (Int.ofNat n)

theorem natOf_VR {tm : Tm} {ρ : Operand → Value} {x : Option Operand} {a : Option AV} {r : Option Nat} (hx : optVal tm x = some a) (hn : natOf a = some r) (hv : ∀ y ∈ x.toArray, ∀ u, val tm y = some u → VR G w (ρ y) u) : x.map ρ = r.map iv := by
  cases x with
  | none =>
    simp only [optVal, Option.some.injEq] at hx
    subst hx
    simp only [natOf, Option.some.injEq] at hn
    subst hn
    rfl
  | some y =>
    simp only [optVal] at hx
    obtain ⟨u, hu, rfl⟩ := Option.map_eq_some_iff.1 hx
    unfold natOf at hn
    split at hn
    · rename_i e; cases e
    · rename_i n e
      simp only [Option.some.injEq] at e hn
      subst e; subst hn
      have := hv y (by simp) _ hu
      simp only [Option.map_some]
      generalize ρ y = z at this
      cases this
      rfl
    · simp at hn

theorem bounds_none {isS : Bool} {len cap : Nat} {lo hi : Option Nat} (h1 : lo.getD 0 ≤ hi.getD len) (h2 : hi.getD len ≤ cap) :
    (Instr.sliceBounds isS len cap (lo.map iv) (hi.map iv) none).run P w = .ok (lo.getD 0, hi.getD len, cap) w := by
  cases lo <;> cases hi <;> simp only [Option.map_none, Option.map_some, Option.getD_none, Option.getD_some, iv] at * <;>
    simp [Instr.sliceBounds, run_sliceBound, *]
theorem bounds_some {isS : Bool} {len cap h m : Nat} {lo : Option Nat} (h1 : lo.getD 0 ≤ h) (h2 : h ≤ m) (h3 : m ≤ cap) :
    (Instr.sliceBounds isS len cap (lo.map iv) (some (iv h)) (some (iv m))).run P w = .ok (lo.getD 0, h, m) w := by
  cases lo <;> simp only [Option.map_none, Option.map_some, Option.getD_none, Option.getD_some, iv] at * <;>
    simp [Instr.sliceBounds, run_sliceBound, *]

theorem slice_str_sim {t : Nat} (hd : P.underlying t = some .string) {s : ByteArray} {lo hi : Option Nat} {v : AV} (hv : evSlice (.str (bytesOf s)) lo hi none = some v) :
    ∃ V, (Instr.sliceAt t (.string s) (lo.map iv) (hi.map iv) none).run P w = .ok V w ∧ VR G w V v := by
  unfold evSlice at hv
  simp only at hv
  cases hc : (Nat.ble (lo.getD 0) (hi.getD (bytesOf s).length) && Nat.ble (hi.getD (bytesOf s).length) (bytesOf s).length) with
  | false => rw [hc] at hv; simp at hv
  | true =>
    rw [hc] at hv
    simp only [cond_true, Option.some.injEq] at hv
    simp only [Bool.and_eq_true] at hc
    have h1 := Nat.le_of_ble_eq_true hc.1
    have h2 := Nat.le_of_ble_eq_true hc.2
    rw [bytesOf_length] at h1 h2 hv
    have hb := bounds_none (P := P) (w := w) (isS := false) (lo := lo) (hi := hi) (len := s.size) (cap := s.size) h1 h2
    refine ⟨.string (s.extract (lo.getD 0) (hi.getD s.size)), ?_, ?_⟩
    · rw [run_sliceAt_string w t _ _ _ _ hd]
      unfold Instr.slice
      simp only [Sem.run_bind, run_under hd, Result.andThen_ok, hb, Option.isSome_none, Bool.false_eq_true, if_false, Sem.run_pure]
    · subst hv
      have : (List.take (hi.getD s.size - lo.getD 0) (List.drop (lo.getD 0) (bytesOf s))) = bytesOf (s.extract (lo.getD 0) (hi.getD s.size)) := by
        unfold bytesOf
        rw [Lib.extract_data, List.map_take, List.map_drop]
      rw [this]
      exact .str _

theorem slice_sl_sim {t e : Nat} {ie : TypeInfo} (hd : P.underlying t = some (.slice e)) (hi : P.info? e = some ie) {A : Value} {o : Own} {els : List AV} (hA : VR G w A (.sl o els)) (hs : sizesAre ie.size els = true)
    {lo hh mx : Option Nat} {v : AV} (hv : evSlice (.sl o els) lo hh mx = some v) :
    ∃ V, (Instr.sliceAt t A (lo.map iv) (hh.map iv) (mx.map iv)).run P w = .ok V w ∧ VR G w V v := by
  have hrun : ∀ (a : Option Addr) (len cap l h m : Nat), (Instr.sliceBounds true len cap (lo.map iv) (hh.map iv) (mx.map iv)).run P w = .ok (l, h, m) w →
      (Instr.sliceAt t (.slice a len cap) (lo.map iv) (hh.map iv) (mx.map iv)).run P w = .ok (.slice (if m = l then a else a.map (·.add (l * ie.size))) (h - l) (m - l)) w := by
    intro a len cap l h m hb
    have e1 : (Instr.sliceAt t (.slice a len cap) (lo.map iv) (hh.map iv) (mx.map iv)).run P w = (Instr.slice t (.slice a len cap) (lo.map iv) (hh.map iv) (mx.map iv)).run P w := by
      simp [Instr.sliceAt, run_under hd]
    rw [e1]
    unfold Instr.slice
    simp only [Sem.run_bind, run_under hd, Result.andThen_ok, hb, run_sizeOf hi, Sem.run_pure]
  -- the piece, wherever its bounds lie
  have piece : ∀ (len cap l h m : Nat) (a : Option Addr) (o' : Own), A = .slice a len cap → els.length = len → l ≤ h → h ≤ len → h ≤ m → m ≤ cap →
      OwnR G o' (.slice (if m = l then a else a.map (·.add (l * ie.size))) (h - l) (m - l)) (h - l) (m - l) →
      VR G w (.slice (if m = l then a else a.map (·.add (l * ie.size))) (h - l) (m - l)) (.sl o' ((els.drop l).take (h - l))) := by
    intro len cap l h m a o' hAe hlen hlh hhl hhm hmc ho'
    subst hAe
    cases hA with
    | sl0 o ho =>
      have e1 : h = 0 := by simp at hlen; omega
      have e2 : l = 0 := by omega
      have e3 : m = 0 := by omega
      subst e1; subst e2; subst e3
      simp only [if_true, Nat.sub_self] at ho' ⊢
      simpa using VR.sl0 o' ho'
    | sl b off _ _ s _ _ f hl2 hc2 hs2 h1 h2 ho2 =>
      have hlen' : ((els.drop l).take (h - l)).length = h - l := by simp; omega
      by_cases hml : m = l
      · rw [if_pos hml] at ho' ⊢
        have e1 : h - l = 0 := by omega
        have e2 : m - l = 0 := by omega
        rw [e1, e2] at ho' ⊢
        simp only [List.take_zero]
        exact .sl b off 0 0 0 o' [] (fun _ _ => undef) rfl (Nat.le_refl _) (fun x hx => by simp at hx) (fun i j hi => absurd hi (by omega)) (fun i j x y hx => by simp at hx) ho'
      · rw [if_neg hml] at ho' ⊢
        simp only [Option.map_some, addr_add] at ho' ⊢
        have hss : ∀ x ∈ els, x.cells.length = ie.size := sizesAre_spec hs
        by_cases hz : els = []
        · subst hz
          have e1 : h - l = 0 := by simp at hlen; omega
          rw [e1] at ho' ⊢
          simp only [List.take_zero]
          exact .sl b _ 0 _ 0 o' [] (fun _ _ => undef) rfl (Nat.zero_le _) (fun x hx => by simp at hx) (fun i j hi => absurd hi (by omega)) (fun i j x y hx => by simp at hx) ho'
        · obtain ⟨x0, hx0⟩ := List.exists_mem_of_ne_nil els hz
          have hse : s = ie.size := by rw [← hs2 x0 hx0, hss x0 hx0]
          subst hse
          refine .sl b _ (h - l) (m - l) _ o' _ (fun i j => f (l + i) j) hlen' (by omega) (fun x hx => hs2 x (List.mem_of_mem_drop (List.mem_of_mem_take hx))) (fun i j hi hj => ?_) (fun i j x y hx hy => ?_) ho'
          · have := h1 (l + i) j (by omega) hj
            rw [Nat.add_mul] at this
            rw [show off + l * ie.size + i * ie.size + j = off + (l * ie.size + i * ie.size) + j by omega]
            exact this
          · have hi := getElem?_lt hx
            rw [hlen'] at hi
            rw [List.getElem?_take_of_lt hi, List.getElem?_drop] at hx
            exact h2 (l + i) j x y hx hy
  unfold evSlice at hv
  simp only at hv
  -- the slice's own shape
  obtain ⟨a, len, cap, hAe, hlen, hcap, how⟩ : ∃ a len cap, A = .slice a len cap ∧ els.length = len ∧ len ≤ cap ∧ OwnR G o (.slice a len cap) len cap := by
    cases hA with
    | sl0 o ho => exact ⟨none, 0, 0, rfl, rfl, Nat.le_refl _, ho⟩
    | sl b off len cap s o els f hl2 hc2 hs2 h1 h2 ho2 => exact ⟨_, len, cap, rfl, hl2, hc2, ho2⟩
  cases mx with
  | some m =>
    simp only at hv
    cases hh with
    | none => simp at hv
    | some q =>
      simp only [Option.getD_some] at hv
      cases hc : (Nat.ble (lo.getD 0) q && (Nat.ble q m && Nat.ble m els.length)) with
      | false => rw [hc] at hv; simp at hv
      | true =>
        rw [hc] at hv
        simp only [cond_true, Option.some.injEq] at hv
        simp only [Bool.and_eq_true] at hc
        have c1 := Nat.le_of_ble_eq_true hc.1
        have c2 := Nat.le_of_ble_eq_true hc.2.1
        have c3 := Nat.le_of_ble_eq_true hc.2.2
        subst hv
        refine ⟨_, by rw [hAe]; exact hrun a len cap _ _ _ (bounds_some c1 c2 (by omega)), ?_⟩
        refine piece len cap _ _ _ a _ hAe hlen c1 (by omega) c2 (by omega) ?_
        cases hqm : Nat.beq q m with
        | true =>
          simp only [cond_true, OwnR]
          have := beq_nat.1 hqm
          omega
        | false => simp only [cond_false]; trivial
  | none =>
    simp only at hv
    cases hc : (Nat.ble (lo.getD 0) (hh.getD els.length) && Nat.ble (hh.getD els.length) els.length) with
    | false => rw [hc] at hv; simp at hv
    | true =>
      rw [hc] at hv
      simp only [cond_true, Option.some.injEq] at hv
      simp only [Bool.and_eq_true] at hc
      have c1 := Nat.le_of_ble_eq_true hc.1
      have c2 := Nat.le_of_ble_eq_true hc.2
      subst hv
      rw [hlen] at c1 c2 ⊢
      refine ⟨_, by rw [hAe]; exact hrun a len cap _ _ _ (bounds_none c1 (by omega)), ?_⟩
      refine piece len cap _ _ _ a _ hAe hlen c1 c2 (by omega) (Nat.le_refl _) ?_
      cases hq : Nat.beq (hh.getD len) len with
      | false => simp only [cond_false]; trivial
      | true =>
        have hql := beq_nat.1 hq
        simp only [cond_true]
        cases o with
        | no => trivial
        | full =>
          simp only [OwnR] at how ⊢
          omega
        | ch id =>
          simp only
          cases hl0 : Nat.beq (lo.getD 0) 0 with
          | false => simp only [cond_false]; trivial
          | true =>
            simp only [cond_true]
            have := beq_nat.1 hl0
            rw [this, hql]
            have e : (if cap = 0 then a else a.map (·.add (0 * ie.size))) = a := by
              split
              · rfl
              · cases a <;> simp [Addr.add]
            rw [e]
            exact how
end

end Go.Ev
