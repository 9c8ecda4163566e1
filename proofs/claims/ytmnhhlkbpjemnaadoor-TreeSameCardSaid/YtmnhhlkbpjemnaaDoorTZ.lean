/- Free names: what the program finds is what the reference finds. -/
import Derived.Test.YtmnhhlkbpjemnaaDoorTI
import Derived.Test.YtmnhhlkbpjemnaaDoorTK
import Derived.Test.YtmnhhlkbpjemnaaDoorTW
import Derived.Test.YtmnhhlkbpjemnaaDoorTX
import Derived.Test.YtmnhhlkbpjemnaaDoorTE
import Derived.Test.YtmnhhlkbpjemnaaDoorTD
set_option autoImplicit false
set_option maxRecDepth 100000
set_option linter.unusedSimpArgs false
set_option linter.unusedVariables false
namespace Go.Proofs.YtmnhhlkbpjemnaaDoor.Env
open Go.Ev Go.Ev.Nd

/-! ### The order of texts -/
theorem nl_irr : ∀ a : List Nat, nLess a a = false
  | [] => rfl
  | a :: l => by simp only [nLess, nl_irr l, Bool.and_false, Bool.or_false]; exact Bool.eq_false_iff.2 fun h => by rw [Nat.blt_eq] at h; omega
theorem nl_tr : ∀ {a b c : List Nat}, nLess a b = true → nLess b c = true → nLess a c = true
  | _, [], _, h, _ => by cases ‹List Nat› <;> simp [nLess] at h
  | _, _ :: _, [], _, h => by simp [nLess] at h
  | [], _ :: _, _ :: _, _, _ => rfl
  | a :: x, b :: y, c :: z, h1, h2 => by
    simp only [nLess, Bool.or_eq_true, Bool.and_eq_true, Nat.blt_eq, Nat.beq_eq] at h1 h2 ⊢
    rcases h1 with h1 | ⟨e1, h1⟩ <;> rcases h2 with h2 | ⟨e2, h2⟩
    · exact .inl (by omega)
    · exact .inl (by omega)
    · exact .inl (by omega)
    · exact .inr ⟨by omega, nl_tr h1 h2⟩
theorem nl_as {a b : List Nat} (h : nLess a b = true) : nLess b a = false := by
  cases hb : nLess b a with
  | false => rfl
  | true => have := nl_tr h hb; rw [nl_irr] at this; cases this
theorem nl_tot : ∀ {a b : List Nat}, nLess a b = false → nLess b a = false → a = b
  | [], [], _, _ => rfl
  | [], _ :: _, h, _ => by simp [nLess] at h
  | _ :: _, [], _, h => by simp [nLess] at h
  | a :: x, b :: y, h1, h2 => by
    simp only [nLess, Bool.or_eq_false_iff, Bool.and_eq_false_iff] at h1 h2
    have e1 : ¬ a < b := fun h => by have := h1.1; rw [show Nat.blt a b = true from by rw [Nat.blt_eq]; exact h] at this; cases this
    have e2 : ¬ b < a := fun h => by have := h2.1; rw [show Nat.blt b a = true from by rw [Nat.blt_eq]; exact h] at this; cases this
    have e : a = b := by omega
    subst e
    have hb : Nat.beq a a = true := by rw [Nat.beq_eq]
    rcases h1.2 with h | h
    · rw [hb] at h; cases h
    · rcases h2.2 with k | k
      · rw [hb] at k; cases k
      · rw [nl_tot h k]
def leS (x y : Str) : Prop := nLess y.s x.s = false
theorem leS_an (a b : Str) (h1 : leS a b) (h2 : leS b a) : a = b := by
  obtain ⟨a⟩ := a
  obtain ⟨b⟩ := b
  exact congrArg Str.mk (nl_tot h2 h1)
def Rise (l : List Str) : Prop := l.Pairwise fun x y => nLess x.s y.s = true
theorem Rise.strict {l : List Str} (h : Rise l) : l.Pairwise (fun x y => leS x y ∧ x ≠ y) := List.Pairwise.imp (fun {x y} h => ⟨nl_as h, fun e => by rw [e, nl_irr] at h; cases h⟩) h
theorem lt_iff : ∀ a b : List UInt8, nLess (ofB a) (ofB b) = true ↔ a < b
  | [], [] => by simp [ofB, nLess]
  | [], _ :: _ => by simp [ofB, nLess]
  | _ :: _, [] => by simp [ofB, nLess]
  | a :: x, b :: y => by
    have := lt_iff x y
    unfold ofB at this
    rw [List.cons_lt_cons_iff, ← this]
    simp only [ofB, List.map_cons, nLess, Bool.or_eq_true, Bool.and_eq_true, Nat.blt_eq, Nat.beq_eq, UInt8.lt_iff_toNat_lt]
    rw [UInt8.toNat_inj]
theorem le_iff (a b : List UInt8) : nLess (ofB b) (ofB a) = false ↔ a ≤ b := by
  rw [← List.not_lt, ← lt_iff]
  cases nLess (ofB b) (ofB a) <;> simp
theorem le_rf (a : List UInt8) : a ≤ a := (le_iff a a).1 (nl_irr _)
theorem le_an (a b : List UInt8) (h1 : a ≤ b) (h2 : b ≤ a) : a = b := by
  have := nl_tot ((le_iff _ _).2 h2) ((le_iff _ _).2 h1)
  rw [← toB_ofB a, ← toB_ofB b, this]
theorem le_tr (a b c : List UInt8) (h1 : a ≤ b) (h2 : b ≤ c) : a ≤ c := by
  rw [← le_iff] at h1 h2 ⊢
  cases hb : nLess (ofB c) (ofB a) with
  | false => rfl
  | true =>
    cases h3 : nLess (ofB a) (ofB b) with
    | true => rw [nl_tr hb h3] at h2; cases h2
    | false => rw [nl_tot h3 h1] at hb; rw [hb] at h2; cases h2
theorem le_tot (a b : List UInt8) : a ≤ b ∨ b ≤ a := by
  rw [← le_iff, ← le_iff]
  cases hb : nLess (ofB b) (ofB a) with
  | false => exact .inl rfl
  | true => exact .inr (nl_as hb)
theorem sortB_sorted (zs : List (List UInt8)) : (sortB zs).Pairwise fun x y => x ≤ y := by
  have := List.pairwise_mergeSort (le := fun x y : List UInt8 => decide (x ≤ y)) (fun a b c h1 h2 => by simp only [decide_eq_true_eq] at *; exact le_tr a b c h1 h2) (fun a b => by simp only [Bool.or_eq_true, decide_eq_true_eq]; exact le_tot a b) zs
  exact List.Pairwise.imp (fun h => by simpa using h) this
theorem sortS_strict (L : List Str) : (sortS L).Pairwise fun x y => leS x y ∧ x ≠ y := by
  have h := (compact_sorted le_rf le_tr le_an (sortB_sorted (L.map fun t => toB t.s))).1
  unfold sortS
  rw [List.pairwise_map]
  refine List.Pairwise.imp (fun {x y} h => ⟨?_, fun e => h.2 ?_⟩) h
  · exact (le_iff _ _).2 h.1
  · have := congrArg Str.s e
    simp only at this
    rw [← toB_ofB x, ← toB_ofB y, this]
theorem sortS_mem {L : List Str} (h : okB L) (x : Str) : x ∈ sortS L ↔ x ∈ L := by
  have hc := (compact_sorted le_rf le_tr le_an (sortB_sorted (L.map fun t => toB t.s))).2
  unfold sortS
  simp only [List.mem_map, hc, List.mem_mergeSort]
  constructor
  · rintro ⟨b, ⟨t, ht, rfl⟩, rfl⟩
    rw [ofB_toB (h t ht)]
    exact ht
  · intro hx
    exact ⟨_, ⟨x, hx, rfl⟩, by rw [ofB_toB (h x hx)]⟩

/-! ### the reference's -/
theorem insS_mem (out : List Str) (p : List Nat) (x : Str) : x ∈ insS out p ↔ x ∈ out ∨ x = ⟨p⟩ := by
  have h := List.takeWhile_append_dropWhile (p := fun y : Str => nLess y.s p) (l := out)
  unfold insS
  simp only [List.mem_append, List.mem_cons]
  constructor
  · rintro (h1 | rfl | h1)
    · exact .inl (by rw [← h]; exact List.mem_append_left _ h1)
    · exact .inr rfl
    · exact .inl (by rw [← h]; exact List.mem_append_right _ h1)
  · rintro (h1 | rfl)
    · rw [← h] at h1
      rcases List.mem_append.1 h1 with h1 | h1
      · exact .inl h1
      · exact .inr (.inr h1)
    · exact .inr (.inl rfl)
theorem insS_rise {p : List Nat} : ∀ {out : List Str}, Rise out → (⟨p⟩ : Str) ∉ out → Rise (insS out p)
  | [], _, _ => by simp [insS, Rise]
  | y :: l, h, hp => by
    unfold Rise at h
    rw [List.pairwise_cons] at h
    cases hb : nLess y.s p with
    | true =>
      have e : insS (y :: l) p = y :: insS l p := by simp [insS, hb]
      rw [e]
      have := insS_rise h.2 (fun hm => hp (List.mem_cons_of_mem _ hm))
      refine List.pairwise_cons.2 ⟨fun x hx => ?_, this⟩
      rcases (insS_mem l p x).1 hx with hx | rfl
      · exact h.1 x hx
      · exact hb
    | false =>
      have e : insS (y :: l) p = ⟨p⟩ :: y :: l := by simp [insS, hb]
      rw [e]
      have hy : nLess p y.s = true := by
        cases h3 : nLess p y.s with
        | true => rfl
        | false =>
          refine absurd (List.mem_cons_self ..) (?_ : ¬ y ∈ y :: l)
          have : y = ⟨p⟩ := by obtain ⟨y⟩ := y; exact congrArg Str.mk (nl_tot hb h3)
          rw [← this] at hp
          exact hp
      refine List.pairwise_cons.2 ⟨fun x hx => ?_, List.pairwise_cons.2 h⟩
      rcases List.mem_cons.1 hx with rfl | hx
      · exact hy
      · exact nl_tr hy (h.1 x hx)
theorem has_no {L : List Str} {v : List Nat} : hasS L v = false ↔ (⟨v⟩ : Str) ∉ L := by
  rw [← hasS_iff]
  cases hasS L v <;> simp
mutual
theorem freeR_rise : ∀ (t : Nd) (bound out : List Str), Rise out → Rise (freeR t bound out)
  | .mk o p q n a ks, bound, out, h => by
    simp only [freeR]
    refine freeRL_rise o p q 0 ks bound _ ?_
    cases hb : (natsBeq o varS && (!hasS bound p && !hasS out p)) with
    | false => exact h
    | true =>
      simp only [Bool.and_eq_true, Bool.not_eq_true'] at hb
      exact insS_rise h (has_no.1 hb.2.2)
theorem freeRL_rise (o p q : List Nat) : ∀ (i : Nat) (l : List Nd) (bound out : List Str), Rise out → Rise (freeRL o p q i l bound out)
  | _, [], _, _, h => h
  | i, t :: l, bound, out, h => by
    simp only [freeRL]
    exact freeRL_rise o p q (i + 1) l bound _ (freeR_rise t _ _ h)
end
theorem bind_eq {o : List Nat} (p q : List Nat) {i : Nat} (h : natsBeq o recS = true → i < 2) : bindR o p q ↑i = bindT o p q ↑i := by
  unfold bindR bindT
  cases hr : natsBeq o recS with
  | false => cases natsBeq o funS <;> cases natsBeq o letS <;> cases natsBeq o tryS <;> cases natsBeq o matchS <;> cases intBeq (↑i : Int) 1 <;> cases intBeq (↑i : Int) 2 <;> rfl
  | true =>
    have := Go.Ev.natsBeq_iff.1 hr
    subst this
    have hi := h hr
    match i, hi with
    | 0, _ => rfl
    | 1, _ => rfl
theorem kids_of {o p q : List Nat} {n a : Int} {ks : List Nd} (h : eachF (.mk o p q n a ks) = true) : kidsF o = ↑ks.length ∧ eachL ks = true := by
  simp only [eachF, Bool.and_eq_true] at h
  exact ⟨intBeq_iff.1 h.1, h.2.2⟩
mutual
theorem freeR_mem : ∀ (t : Nd) (bound out : List Str), eachF t = true → fit t → ∀ x, x ∈ freeR t bound out ↔ x ∈ out ∨ (x ∈ freeT t ∧ x ∉ bound)
  | .mk o p q n a ks, bound, out, he, hf, x => by
    obtain ⟨hk, hl⟩ := kids_of he
    simp only [freeR, freeT]
    have hb := freeT_bytes (.mk o p q n a ks) hf
    simp only [fit] at hf
    cases hv : natsBeq o varS with
    | true =>
      have := Go.Ev.natsBeq_iff.1 hv
      subst this
      have : ks = [] := by
        rw [show kidsF varS = 0 from rfl] at hk
        cases ks with
        | nil => rfl
        | cons t l => simp at hk; omega
      subst this
      simp only [freeRL, cond_true, Bool.true_and, List.mem_singleton]
      cases h1 : hasS bound p with
      | true =>
        have := hasS_iff.1 h1
        simp only [Bool.not_true, Bool.false_and, cond_false]
        constructor
        · exact .inl
        · rintro (h | ⟨rfl, h⟩)
          · exact h
          · exact absurd this h
      | false =>
        have hnb := has_no.1 h1
        cases h2 : hasS out p with
        | true =>
          have := hasS_iff.1 h2
          simp only [Bool.not_true, Bool.and_false, cond_false]
          constructor
          · exact .inl
          · rintro (h | ⟨rfl, h⟩)
            · exact h
            · exact this
        | false =>
          simp only [Bool.not_false, Bool.and_self, cond_true, insS_mem]
          constructor
          · rintro (h | rfl)
            · exact .inl h
            · exact .inr ⟨rfl, hnb⟩
          · rintro (h | ⟨rfl, h⟩)
            · exact .inl h
            · exact .inr rfl
    | false =>
      simp only [Bool.false_and, cond_false]
      have hok : okB (freeTL o p q 0 ks) := freeTL_bytes o p q 0 ks hf.2.2.2.2.2.2
      rw [sortS_mem hok]
      refine freeRL_mem o p q 0 ks bound out hl hf.2.2.2.2.2.2 (fun hr => ?_) x
      have := Go.Ev.natsBeq_iff.1 hr
      subst this
      rw [show kidsF recS = 2 from rfl] at hk
      omega
theorem freeRL_mem (o p q : List Nat) : ∀ (i : Nat) (l : List Nd) (bound out : List Str), eachL l = true → fits l → (natsBeq o recS = true → i + l.length ≤ 2) → ∀ x, x ∈ freeRL o p q i l bound out ↔ x ∈ out ∨ (x ∈ freeTL o p q i l ∧ x ∉ bound)
  | i, [], bound, out, _, _, _, x => by simp [freeRL, freeTL]
  | i, t :: l, bound, out, he, hf, hr, x => by
    simp only [eachL, Bool.and_eq_true] at he
    simp only [fits] at hf
    simp only [List.length_cons] at hr
    simp only [freeRL, freeTL]
    rw [freeRL_mem o p q (i + 1) l bound _ he.2 hf.2 (fun h => by have := hr h; omega) x, freeR_mem t _ out he.1 hf.1 x, bind_eq p q (fun h => by have := hr h; omega)]
    simp only [List.mem_append, notB, List.mem_filter, Bool.not_eq_true', not_or]
    rw [show hasS (bindT o p q ↑i) x.s = false ↔ x ∉ bindT o p q ↑i from has_no]
    by_cases h1 : x ∈ out <;> by_cases h2 : x ∈ freeT t <;> by_cases h3 : x ∈ bound <;> by_cases h4 : x ∈ bindT o p q ↑i <;> by_cases h5 : x ∈ freeTL o p q (i + 1) l <;> simp [h1, h2, h3, h4, h5]
end
theorem freeT_strict (t : Nd) : (freeT t).Pairwise fun x y => leS x y ∧ x ≠ y := by
  obtain ⟨o, p, q, n, a, ks⟩ := t
  simp only [freeT]
  cases natsBeq o varS with
  | true => simp
  | false => exact sortS_strict _
theorem free_eq {t : Nd} (he : eachF t = true) (hf : fit t) : freeT t = freeRF t := by
  classical
  haveI : Inhabited Str := ⟨⟨[]⟩⟩
  refine strict_eq leS_an (freeT_strict t) (freeR_rise t [] [] .nil).strict fun x => ?_
  unfold freeRF
  rw [freeR_mem t [] [] he hf x]
  simp
end Go.Proofs.YtmnhhlkbpjemnaaDoor.Env
/- known; the laws TreeIs, TreeFree, TreeSame. -/
set_option autoImplicit false
set_option maxRecDepth 100000
set_option maxHeartbeats 4000000
set_option linter.unusedSimpArgs false
set_option linter.unusedVariables false
namespace Go.Proofs.YtmnhhlkbpjemnaaDoor.Env
open Go.Ev Go.Ev.Nd Go.Proofs.YtmnhhlkbpjemnaaDoor.Lx

/-- fun x . y x -/
def knN : Nd := .mk funS [120] [] 0 0 [.mk [97, 112, 112] [] [] 0 0 [.mk varS [121] [] 0 0 [], .mk varS [120] [] 0 0 []]]
theorem kn_fit : fit knN := by
  have h0 : okS [] := ⟨by simp, by simp⟩
  simp only [knN, fit, fits, okS, funS, varS]
  simp
theorem kn_each : eachF knN = true := by kernel_rfl
theorem kn_size : sizeF knN = 4 := by kernel_rfl
theorem kn_is : isR knN = true := by unfold isR; rw [kn_each, kn_size]; rfl
theorem kn_val : valF knN = true := by kernel_rfl
theorem kn_free : freeT knN = [⟨[121]⟩] := by rw [free_eq kn_each kn_fit]; kernel_rfl
noncomputable abbrev e9s : Env := addPrim (addPrim (addPrim (addPrim (addPrim env 9 pIsT) 10 pVal) 12 pSize) 14 pRows) 15 pTFree
theorem e9s_ok : EnvOk Tryd.prog e9s := addPrim_ok (addPrim_ok (addPrim_ok (addPrim_ok (addPrim_ok env_ok p9_ok) p10_ok) p12_ok) p14_ok) p15_ok
abbrev knV (o1 o2 o3 o4 : Go.Ev.Own) : AV := .agg [.str [102, 117, 110], .str [120], .str [], .int .i64 0, .int .i64 0, .sl o1 [.agg [.str [97, 112, 112], .str [], .str [], .int .i64 0, .int .i64 0, .sl o2 [.agg [.str [118, 97, 114], .str [121], .str [], .int .i64 0, .int .i64 0, .sl o3 []], .agg [.str [118, 97, 114], .str [120], .str [], .int .i64 0, .int .i64 0, .sl o4 []]]]]]
theorem kn_wk (o1 o2 o3 o4 : Go.Ev.Own) : (knV o1 o2 o3 o4).wk 0 (Enc.enc knN) := by
  show (knV o1 o2 o3 o4).wk 0 knN.av
  unfold knV knN
  simp only [Nd.av, avs, wk_agg, wk_tup, wk_sl, wks_cons, wks_nil, wk_int, wk_str, wk_bool, own_no, and_true, true_and, funS, varS]
theorem body13 : Tryd.f13.body = some (codeAt Tryd.f13 []) := rfl
theorem known_run : ∃ v' h1, evL e9s 13 [] ⟨.e, 0⟩ = some (v', h1) ∧ v' = .bool true := by
  have hty : e9s.ty = env.ty := rfl
  have hpl : e9s.plan = env.plan := rfl
  have k9 : ∀ o1 o2 o3 o4 h, evL e9s 9 [knV o1 o2 o3 o4] h = some (.bool true, h) := fun o1 o2 o3 o4 h => by
    have := prim1_call (E := e9s) (f := 9) (a := knN) (F := isR) (q := fit) (by kernel_rfl) (kn_wk o1 o2 o3 o4) kn_fit h
    rw [kn_is] at this; exact this
  have k10 : ∀ o1 o2 o3 o4 h, evL e9s 10 [knV o1 o2 o3 o4] h = some (.bool true, h) := fun o1 o2 o3 o4 h => by
    have := prim1_call (E := e9s) (f := 10) (a := knN) (F := valF) (q := fit) (by kernel_rfl) (kn_wk o1 o2 o3 o4) kn_fit h
    rw [kn_val] at this; exact this
  have k12 : ∀ o1 o2 o3 o4 h, evL e9s 12 [knV o1 o2 o3 o4] h = some (.int .i64 4, h) := fun o1 o2 o3 o4 h => by
    have := prim1_call (E := e9s) (f := 12) (a := knN) (F := sizeF) (q := fit) (by kernel_rfl) (kn_wk o1 o2 o3 o4) kn_fit h
    rw [kn_size] at this; exact this
  have k15 : ∀ o1 o2 o3 o4 h, evL e9s 15 [knV o1 o2 o3 o4] h = some (.sl .no [.str [121]], h) := fun o1 o2 o3 o4 h => by
    have := prim1_call (E := e9s) (f := 15) (a := knN) (F := freeT) (q := qFr') (by kernel_rfl) (kn_wk o1 o2 o3 o4) ⟨kn_fit, by simp [knN, Nd.size, sizes]⟩ h
    rw [kn_free] at this; exact this
  have k14 : ∀ o h, evL e9s 14 [.sl .no [.str [121]], .sl o [.str [121]]] h = some (.bool true, h) := fun o h => by
    have := prim2_call (E := e9s) (f := 14) (a := ([⟨[121]⟩] : List Str)) (b := ([⟨[121]⟩] : List Str)) (F := rowsF) (q := fun (a : List Str) (_ : List Str) => a.length ≤ 9223372036854775807) (by kernel_rfl) (strs_bare 0 .no [⟨[121]⟩]) (strs_bare 0 o [⟨[121]⟩]) (by simp) h
    rw [rowsF_self] at this; exact this
  simp only [knV] at k9 k10 k12 k15
  rw [evL_fn e9s (by kernel_rfl) (by kernel_rfl) body13 _ _ rfl]
  simp only [codeAt, sub, Tryd.f13]
  have i44 : intBeq 4 4 = true := rfl
  simp [cdL_seq, cdL_region, cdL_drawn, cdL_cond, cdL_block, cdL_skip, cdL_label, cdL_exit, cdL_ret, endL, evSeq, evOne, evAct, evOp, opKind, evPure, evRead, evNew, evWrite, evSlice, natOf, optVal, readAt, AV.cells, wantedA, putTm, val, allVals, evBin, evInt, evStr, evAppend, evMin, denseFrom, sizesAre, onesIn, evPlan, recheck, AV.beq_refl, H.new, H.put, fillF, fillAt, allOne, AV.one, setArgs, evRes, resOf, ofVal, ofVal0, blt_dec, ble_dec, beq_dec, T.get_set_ite, T.get_e, isShift, ikBeq, ty_0, ty_1, ty_2, ty_3, ty_4, ty_5, ty_6, ty_7, ty_8, ty_9, ty_10, ty_11, ty_12, ty_13, ty_14, ty_15, ty_16, ty_17, ty_18, ty_19, ty_20, ty_21, ty_22, ty_23, ty_24, ty_25, ty_26, ty_27, ty_28, ty_29, ty_30, ty_31, ty_32, ty_33, ty_34, ty_35, ty_36, ty_37, ty_38, ty_39, ty_40, ty_41, ty_42, ty_43, ty_44, ty_45, ty_46, ty_47, ty_48, ty_49, ty_50, ty_51, ty_52, ty_53, ty_54, ty_55, ty_56, ty_57, ty_58, ty_59, ty_60, ty_61, ty_62, ty_63, ty_64, ty_65, ty_66, ty_67, ty_68, ty_69, ty_70, ty_71, ty_72, ty_73, ty_74, ty_75, ty_76, ty_77, ty_78, ty_79, ty_80, ty_81, ty_82, ty_83, ty_84, ty_85, ty_86, ty_87, ty_88, ty_89, ty_90, ty_91, ty_92, ty_93, ty_94, ty_95, ty_96, ty_97, ty_98, ty_99, ty_100, ty_101, ty_102, ty_103, ty_104, ty_105, ty_106, ty_107, ty_108, ty_109, ty_110, ty_111, ty_112, ty_113, ty_114, ty_115, ty_116, ty_117, ty_118, ty_119, ty_120, ty_121, ty_122, ty_123, ty_124, ty_125, ty_126, ty_127, ty_128, ty_129, pl_3_4, pl_4_3, pl_6_5, pl_9_1, pl_14_6, pl_18_6, pl_20_1, pl_29_6, pl_29_11, pl_30_3, pl_30_5, pl_30_9, pl_33_1, pl_33_10, pl_38_17, pl_46_4, pl_46_6, pl_47_10, pl_48_10, pl_50_3, pl_51_5, pl_51_11, pl_51_16, pl_51_17, pl_51_22, pl_51_23, pl_53_1, pl_53_3, pl_53_5, pl_53_8, pl_54_1, pl_54_3, pl_54_5, pl_54_8, pl_54_10, pl_54_13, pl_54_15, pl_54_18, pl_54_21, pl_60_3, pl_60_5, pl_60_6, pl_62_1, pl_62_2, pl_62_3, pl_69_1, pl_72_3, pl_88_9, pl_88_18, pl_89_9, hty, hpl, bytesOf, k9, k10, k12, k15, k14, i44]
def pK13 : List AV → Option AV
  | [] => some (.bool true)
  | _ => none
noncomputable abbrev pKnown := primPure pK13
theorem p13_ok : PrimOk Tryd.prog 13 pKnown := by
  refine pureL_ok e9s_ok Tryd.func13 (by kernel_rfl) (by kernel_rfl) fun args v hv => ?_
  unfold pK13 at hv
  split at hv
  · simp only [Option.some.injEq] at hv
    subst hv
    obtain ⟨v', h1, e, rfl⟩ := known_run
    exact ⟨_, h1, e, rfl, rfl⟩
  · simp at hv
/-! ### All at once -/
noncomputable abbrev eL : Env := addPrim (addPrim (addPrim (addPrim (addPrim (addPrim (addPrim (addPrim (addPrim (addPrim (addPrim (addPrim env 7 pSize) 8 pIsR) 9 pIsT) 10 pVal) 11 pVal) 12 pSize) 13 pKnown) 14 pRows) 15 pTFree) 16 pRFree) 17 pSame) 18 pSame
theorem eL_ok : EnvOk Tryd.prog eL := addPrim_ok (addPrim_ok (addPrim_ok (addPrim_ok (addPrim_ok (addPrim_ok (addPrim_ok (addPrim_ok (addPrim_ok (addPrim_ok (addPrim_ok (addPrim_ok env_ok p7_ok) p8_ok) p9_ok) p10_ok) p11_ok) p12_ok) p13_ok) p14_ok) p15_ok) p16_ok) p17_ok) p18_ok
theorem eLty : eL.ty = env.ty := rfl
theorem eLpl : eL.plan = env.plan := rfl
theorem L7 {t : Nd} (hf : fit t) (h : H) : evL eL 7 [t.av] h = some (.int .i64 (sizeF t), h) := prim1_call (a := t) (F := sizeF) (q := fit) (by kernel_rfl) (Enc.bare 0 t) hf h
theorem L8 {t : Nd} (hf : fit t) (h : H) : evL eL 8 [t.av] h = some (.bool (isR t), h) := prim1_call (a := t) (F := isR) (q := fit) (by kernel_rfl) (Enc.bare 0 t) hf h
theorem L9 {t : Nd} (hf : fit t) {x : AV} (hx : x.wk 0 t.av) (h : H) : evL eL 9 [x] h = some (.bool (isR t), h) := prim1_call (a := t) (F := isR) (q := fit) (by kernel_rfl) hx hf h
theorem L10 {t : Nd} (hf : fit t) (h : H) : evL eL 10 [t.av] h = some (.bool (valF t), h) := prim1_call (a := t) (F := valF) (q := fit) (by kernel_rfl) (Enc.bare 0 t) hf h
theorem L11 {t : Nd} (hf : fit t) (h : H) : evL eL 11 [t.av] h = some (.bool (valF t), h) := prim1_call (a := t) (F := valF) (q := fit) (by kernel_rfl) (Enc.bare 0 t) hf h
theorem L12 {t : Nd} (hf : fit t) {x : AV} (hx : x.wk 0 t.av) (h : H) : evL eL 12 [x] h = some (.int .i64 (sizeF t), h) := prim1_call (a := t) (F := sizeF) (q := fit) (by kernel_rfl) hx hf h
theorem L13 (h : H) : evL eL 13 [] h = some (.bool true, h) := by rw [evL_prim eL (f := 13) (p := pKnown) (by kernel_rfl)]; rfl
theorem L14 (a b : List Str) (hl : a.length ≤ 9223372036854775807) (h : H) : evL eL 14 [.sl .no (strs a), .sl .no (strs b)] h = some (.bool (rowsF a b), h) := prim2_call (a := a) (b := b) (F := rowsF) (q := fun (a : List Str) (_ : List Str) => a.length ≤ 9223372036854775807) (by kernel_rfl) (strs_bare 0 .no a) (strs_bare 0 .no b) hl h
theorem L15 {t : Nd} (hf : qFr' t) (h : H) : evL eL 15 [t.av] h = some (.sl .no (strs (freeT t)), h) := prim1_call (a := t) (F := freeT) (q := qFr') (by kernel_rfl) (Enc.bare 0 t) hf h
theorem L16 {t : Nd} (hf : qRF t) (h : H) : evL eL 16 [t.av] h = some (.sl .no (strs (freeRF t)), h) := prim1_call (a := t) (F := freeRF) (q := qRF) (by kernel_rfl) (Enc.bare 0 t) hf h
theorem L17 {a b : Nd} (ha : fit a) (hb : fit b) (h : H) : evL eL 17 [a.av, b.av] h = some (.bool (sameF a b), h) := prim2_call (a := a) (b := b) (F := sameF) (q := fun a b => fit a ∧ fit b) (by kernel_rfl) (Enc.bare 0 a) (Enc.bare 0 b) ⟨ha, hb⟩ h
theorem L18 {a b : Nd} (ha : fit a) (hb : fit b) (h : H) : evL eL 18 [a.av, b.av] h = some (.bool (sameF a b), h) := prim2_call (a := a) (b := b) (F := sameF) (q := fun a b => fit a ∧ fit b) (by kernel_rfl) (Enc.bare 0 a) (Enc.bare 0 b) ⟨ha, hb⟩ h
theorem boolB_self (b : Bool) : (b == b) = true := by cases b <;> rfl
/-- TreeIs. -/
theorem law3 (t : Nd) (hf : fit t) : ∃ h1, evL eL 3 [t.av] ⟨.e, 0⟩ = some (.bool true, h1) := by
  have k7 := L7 hf
  have k8 := L8 hf
  have k9 := L9 hf (Enc.bare 0 t)
  have k10 := L10 hf
  have k11 := L11 hf
  have k12 := L12 hf (Enc.bare 0 t)
  have k13 := L13
  rw [show (Enc.enc t : AV) = t.av from rfl] at *
  rw [cells_ t] at *
  rw [evL_fn eL (by kernel_rfl) (by kernel_rfl) (show Tryd.f3.body = some (codeAt Tryd.f3 []) from rfl) _ _ rfl]
  generalize sizeF t = k at *
  generalize isR t = b at *
  generalize valF t = v at *
  have hii : intBeq k k = true := intBeq_iff'.2 rfl
  simp only [codeAt, sub, Tryd.f3]
  cases hb : ltI 300 k with
  | true => simp [cdL_seq, cdL_region, cdL_drawn, cdL_cond, cdL_block, cdL_skip, cdL_label, cdL_exit, cdL_ret, endL, evSeq, evOne, evAct, evOp, opKind, evPure, evRead, evNew, evWrite, evSlice, natOf, optVal, readAt, AV.cells, wantedA, putTm, val, allVals, evBin, evInt, evStr, evAppend, evMin, denseFrom, sizesAre, onesIn, evPlan, recheck, AV.beq_refl, H.new, H.put, fillF, fillAt, allOne, AV.one, setArgs, evRes, resOf, ofVal, ofVal0, blt_dec, ble_dec, beq_dec, T.get_set_ite, T.get_e, isShift, ikBeq, ty_0, ty_1, ty_2, ty_3, ty_4, ty_5, ty_6, ty_7, ty_8, ty_9, ty_10, ty_11, ty_12, ty_13, ty_14, ty_15, ty_16, ty_17, ty_18, ty_19, ty_20, ty_21, ty_22, ty_23, ty_24, ty_25, ty_26, ty_27, ty_28, ty_29, ty_30, ty_31, ty_32, ty_33, ty_34, ty_35, ty_36, ty_37, ty_38, ty_39, ty_40, ty_41, ty_42, ty_43, ty_44, ty_45, ty_46, ty_47, ty_48, ty_49, ty_50, ty_51, ty_52, ty_53, ty_54, ty_55, ty_56, ty_57, ty_58, ty_59, ty_60, ty_61, ty_62, ty_63, ty_64, ty_65, ty_66, ty_67, ty_68, ty_69, ty_70, ty_71, ty_72, ty_73, ty_74, ty_75, ty_76, ty_77, ty_78, ty_79, ty_80, ty_81, ty_82, ty_83, ty_84, ty_85, ty_86, ty_87, ty_88, ty_89, ty_90, ty_91, ty_92, ty_93, ty_94, ty_95, ty_96, ty_97, ty_98, ty_99, ty_100, ty_101, ty_102, ty_103, ty_104, ty_105, ty_106, ty_107, ty_108, ty_109, ty_110, ty_111, ty_112, ty_113, ty_114, ty_115, ty_116, ty_117, ty_118, ty_119, ty_120, ty_121, ty_122, ty_123, ty_124, ty_125, ty_126, ty_127, ty_128, ty_129, pl_3_4, pl_4_3, pl_6_5, pl_9_1, pl_14_6, pl_18_6, pl_20_1, pl_29_6, pl_29_11, pl_30_3, pl_30_5, pl_30_9, pl_33_1, pl_33_10, pl_38_17, pl_46_4, pl_46_6, pl_47_10, pl_48_10, pl_50_3, pl_51_5, pl_51_11, pl_51_16, pl_51_17, pl_51_22, pl_51_23, pl_53_1, pl_53_3, pl_53_5, pl_53_8, pl_54_1, pl_54_3, pl_54_5, pl_54_8, pl_54_10, pl_54_13, pl_54_15, pl_54_18, pl_54_21, pl_60_3, pl_60_5, pl_60_6, pl_62_1, pl_62_2, pl_62_3, pl_69_1, pl_72_3, pl_88_9, pl_88_18, pl_89_9, eLty, eLpl, evEq, k7, hb]
  | false => cases b <;> cases v <;> simp [cdL_seq, cdL_region, cdL_drawn, cdL_cond, cdL_block, cdL_skip, cdL_label, cdL_exit, cdL_ret, endL, evSeq, evOne, evAct, evOp, opKind, evPure, evRead, evNew, evWrite, evSlice, natOf, optVal, readAt, AV.cells, wantedA, putTm, val, allVals, evBin, evInt, evStr, evAppend, evMin, denseFrom, sizesAre, onesIn, evPlan, recheck, AV.beq_refl, H.new, H.put, fillF, fillAt, allOne, AV.one, setArgs, evRes, resOf, ofVal, ofVal0, blt_dec, ble_dec, beq_dec, T.get_set_ite, T.get_e, isShift, ikBeq, ty_0, ty_1, ty_2, ty_3, ty_4, ty_5, ty_6, ty_7, ty_8, ty_9, ty_10, ty_11, ty_12, ty_13, ty_14, ty_15, ty_16, ty_17, ty_18, ty_19, ty_20, ty_21, ty_22, ty_23, ty_24, ty_25, ty_26, ty_27, ty_28, ty_29, ty_30, ty_31, ty_32, ty_33, ty_34, ty_35, ty_36, ty_37, ty_38, ty_39, ty_40, ty_41, ty_42, ty_43, ty_44, ty_45, ty_46, ty_47, ty_48, ty_49, ty_50, ty_51, ty_52, ty_53, ty_54, ty_55, ty_56, ty_57, ty_58, ty_59, ty_60, ty_61, ty_62, ty_63, ty_64, ty_65, ty_66, ty_67, ty_68, ty_69, ty_70, ty_71, ty_72, ty_73, ty_74, ty_75, ty_76, ty_77, ty_78, ty_79, ty_80, ty_81, ty_82, ty_83, ty_84, ty_85, ty_86, ty_87, ty_88, ty_89, ty_90, ty_91, ty_92, ty_93, ty_94, ty_95, ty_96, ty_97, ty_98, ty_99, ty_100, ty_101, ty_102, ty_103, ty_104, ty_105, ty_106, ty_107, ty_108, ty_109, ty_110, ty_111, ty_112, ty_113, ty_114, ty_115, ty_116, ty_117, ty_118, ty_119, ty_120, ty_121, ty_122, ty_123, ty_124, ty_125, ty_126, ty_127, ty_128, ty_129, pl_3_4, pl_4_3, pl_6_5, pl_9_1, pl_14_6, pl_18_6, pl_20_1, pl_29_6, pl_29_11, pl_30_3, pl_30_5, pl_30_9, pl_33_1, pl_33_10, pl_38_17, pl_46_4, pl_46_6, pl_47_10, pl_48_10, pl_50_3, pl_51_5, pl_51_11, pl_51_16, pl_51_17, pl_51_22, pl_51_23, pl_53_1, pl_53_3, pl_53_5, pl_53_8, pl_54_1, pl_54_3, pl_54_5, pl_54_8, pl_54_10, pl_54_13, pl_54_15, pl_54_18, pl_54_21, pl_60_3, pl_60_5, pl_60_6, pl_62_1, pl_62_2, pl_62_3, pl_69_1, pl_72_3, pl_88_9, pl_88_18, pl_89_9, eLty, eLpl, evEq, k7, k8, k9, k10, k11, k12, k13, hb, hii]
theorem size_of {t : Nd} {m : Int} (h : sizeF t ≤ m) (hm : m < 2001) : ↑t.size ≤ m := by
  have := szF_size t 2001 (by unfold sizeF at h; omega)
  unfold sizeF at h
  omega
/-- TreeFree. -/
theorem law4 (t : Nd) (hf : fit t) : ∃ h1, evL eL 4 [t.av] ⟨.e, 0⟩ = some (.bool true, h1) := by
  have k7 := L7 hf
  have k8 := L8 hf
  have k13 := L13
  cases hb : ltI 200 (sizeF t) with
  | true =>
    rw [cells_ t] at *
    rw [evL_fn eL (by kernel_rfl) (by kernel_rfl) (show Tryd.f4.body = some (codeAt Tryd.f4 []) from rfl) _ _ rfl]
    simp only [codeAt, sub, Tryd.f4]
    simp [cdL_seq, cdL_region, cdL_drawn, cdL_cond, cdL_block, cdL_skip, cdL_label, cdL_exit, cdL_ret, endL, evSeq, evOne, evAct, evOp, opKind, evPure, evRead, evNew, evWrite, evSlice, natOf, optVal, readAt, AV.cells, wantedA, putTm, val, allVals, evBin, evInt, evStr, evAppend, evMin, denseFrom, sizesAre, onesIn, evPlan, recheck, AV.beq_refl, H.new, H.put, fillF, fillAt, allOne, AV.one, setArgs, evRes, resOf, ofVal, ofVal0, blt_dec, ble_dec, beq_dec, T.get_set_ite, T.get_e, isShift, ikBeq, ty_0, ty_1, ty_2, ty_3, ty_4, ty_5, ty_6, ty_7, ty_8, ty_9, ty_10, ty_11, ty_12, ty_13, ty_14, ty_15, ty_16, ty_17, ty_18, ty_19, ty_20, ty_21, ty_22, ty_23, ty_24, ty_25, ty_26, ty_27, ty_28, ty_29, ty_30, ty_31, ty_32, ty_33, ty_34, ty_35, ty_36, ty_37, ty_38, ty_39, ty_40, ty_41, ty_42, ty_43, ty_44, ty_45, ty_46, ty_47, ty_48, ty_49, ty_50, ty_51, ty_52, ty_53, ty_54, ty_55, ty_56, ty_57, ty_58, ty_59, ty_60, ty_61, ty_62, ty_63, ty_64, ty_65, ty_66, ty_67, ty_68, ty_69, ty_70, ty_71, ty_72, ty_73, ty_74, ty_75, ty_76, ty_77, ty_78, ty_79, ty_80, ty_81, ty_82, ty_83, ty_84, ty_85, ty_86, ty_87, ty_88, ty_89, ty_90, ty_91, ty_92, ty_93, ty_94, ty_95, ty_96, ty_97, ty_98, ty_99, ty_100, ty_101, ty_102, ty_103, ty_104, ty_105, ty_106, ty_107, ty_108, ty_109, ty_110, ty_111, ty_112, ty_113, ty_114, ty_115, ty_116, ty_117, ty_118, ty_119, ty_120, ty_121, ty_122, ty_123, ty_124, ty_125, ty_126, ty_127, ty_128, ty_129, pl_3_4, pl_4_3, pl_6_5, pl_9_1, pl_14_6, pl_18_6, pl_20_1, pl_29_6, pl_29_11, pl_30_3, pl_30_5, pl_30_9, pl_33_1, pl_33_10, pl_38_17, pl_46_4, pl_46_6, pl_47_10, pl_48_10, pl_50_3, pl_51_5, pl_51_11, pl_51_16, pl_51_17, pl_51_22, pl_51_23, pl_53_1, pl_53_3, pl_53_5, pl_53_8, pl_54_1, pl_54_3, pl_54_5, pl_54_8, pl_54_10, pl_54_13, pl_54_15, pl_54_18, pl_54_21, pl_60_3, pl_60_5, pl_60_6, pl_62_1, pl_62_2, pl_62_3, pl_69_1, pl_72_3, pl_88_9, pl_88_18, pl_89_9, eLty, eLpl, evEq, k7, hb]
  | false =>
    have h200 : sizeF t ≤ 200 := by rw [ltI_eq] at hb; simpa using hb
    have hsz := size_of h200 (by omega)
    have k15 := L15 (t := t) ⟨hf, by omega⟩
    have k16 := L16 (t := t) ⟨hf, by omega⟩
    have hlen := freeT_len t
    have k14 := L14 (freeT t) (freeRF t) (by omega)
    cases hi : isR t with
    | false =>
      rw [cells_ t] at *
      rw [evL_fn eL (by kernel_rfl) (by kernel_rfl) (show Tryd.f4.body = some (codeAt Tryd.f4 []) from rfl) _ _ rfl]
      simp only [codeAt, sub, Tryd.f4]
      simp [cdL_seq, cdL_region, cdL_drawn, cdL_cond, cdL_block, cdL_skip, cdL_label, cdL_exit, cdL_ret, endL, evSeq, evOne, evAct, evOp, opKind, evPure, evRead, evNew, evWrite, evSlice, natOf, optVal, readAt, AV.cells, wantedA, putTm, val, allVals, evBin, evInt, evStr, evAppend, evMin, denseFrom, sizesAre, onesIn, evPlan, recheck, AV.beq_refl, H.new, H.put, fillF, fillAt, allOne, AV.one, setArgs, evRes, resOf, ofVal, ofVal0, blt_dec, ble_dec, beq_dec, T.get_set_ite, T.get_e, isShift, ikBeq, ty_0, ty_1, ty_2, ty_3, ty_4, ty_5, ty_6, ty_7, ty_8, ty_9, ty_10, ty_11, ty_12, ty_13, ty_14, ty_15, ty_16, ty_17, ty_18, ty_19, ty_20, ty_21, ty_22, ty_23, ty_24, ty_25, ty_26, ty_27, ty_28, ty_29, ty_30, ty_31, ty_32, ty_33, ty_34, ty_35, ty_36, ty_37, ty_38, ty_39, ty_40, ty_41, ty_42, ty_43, ty_44, ty_45, ty_46, ty_47, ty_48, ty_49, ty_50, ty_51, ty_52, ty_53, ty_54, ty_55, ty_56, ty_57, ty_58, ty_59, ty_60, ty_61, ty_62, ty_63, ty_64, ty_65, ty_66, ty_67, ty_68, ty_69, ty_70, ty_71, ty_72, ty_73, ty_74, ty_75, ty_76, ty_77, ty_78, ty_79, ty_80, ty_81, ty_82, ty_83, ty_84, ty_85, ty_86, ty_87, ty_88, ty_89, ty_90, ty_91, ty_92, ty_93, ty_94, ty_95, ty_96, ty_97, ty_98, ty_99, ty_100, ty_101, ty_102, ty_103, ty_104, ty_105, ty_106, ty_107, ty_108, ty_109, ty_110, ty_111, ty_112, ty_113, ty_114, ty_115, ty_116, ty_117, ty_118, ty_119, ty_120, ty_121, ty_122, ty_123, ty_124, ty_125, ty_126, ty_127, ty_128, ty_129, pl_3_4, pl_4_3, pl_6_5, pl_9_1, pl_14_6, pl_18_6, pl_20_1, pl_29_6, pl_29_11, pl_30_3, pl_30_5, pl_30_9, pl_33_1, pl_33_10, pl_38_17, pl_46_4, pl_46_6, pl_47_10, pl_48_10, pl_50_3, pl_51_5, pl_51_11, pl_51_16, pl_51_17, pl_51_22, pl_51_23, pl_53_1, pl_53_3, pl_53_5, pl_53_8, pl_54_1, pl_54_3, pl_54_5, pl_54_8, pl_54_10, pl_54_13, pl_54_15, pl_54_18, pl_54_21, pl_60_3, pl_60_5, pl_60_6, pl_62_1, pl_62_2, pl_62_3, pl_69_1, pl_72_3, pl_88_9, pl_88_18, pl_89_9, eLty, eLpl, evEq, k7, k8, hi, hb]
    | true =>
      have he : eachF t = true := by
        unfold isR at hi
        rw [show ltI 2000 (sizeF t) = false by rw [ltI_eq]; simp; omega] at hi
        exact hi
      rw [← free_eq he hf, rowsF_self] at k14
      rw [← free_eq he hf] at k16
      rw [cells_ t] at *
      rw [evL_fn eL (by kernel_rfl) (by kernel_rfl) (show Tryd.f4.body = some (codeAt Tryd.f4 []) from rfl) _ _ rfl]
      simp only [codeAt, sub, Tryd.f4]
      simp [cdL_seq, cdL_region, cdL_drawn, cdL_cond, cdL_block, cdL_skip, cdL_label, cdL_exit, cdL_ret, endL, evSeq, evOne, evAct, evOp, opKind, evPure, evRead, evNew, evWrite, evSlice, natOf, optVal, readAt, AV.cells, wantedA, putTm, val, allVals, evBin, evInt, evStr, evAppend, evMin, denseFrom, sizesAre, onesIn, evPlan, recheck, AV.beq_refl, H.new, H.put, fillF, fillAt, allOne, AV.one, setArgs, evRes, resOf, ofVal, ofVal0, blt_dec, ble_dec, beq_dec, T.get_set_ite, T.get_e, isShift, ikBeq, ty_0, ty_1, ty_2, ty_3, ty_4, ty_5, ty_6, ty_7, ty_8, ty_9, ty_10, ty_11, ty_12, ty_13, ty_14, ty_15, ty_16, ty_17, ty_18, ty_19, ty_20, ty_21, ty_22, ty_23, ty_24, ty_25, ty_26, ty_27, ty_28, ty_29, ty_30, ty_31, ty_32, ty_33, ty_34, ty_35, ty_36, ty_37, ty_38, ty_39, ty_40, ty_41, ty_42, ty_43, ty_44, ty_45, ty_46, ty_47, ty_48, ty_49, ty_50, ty_51, ty_52, ty_53, ty_54, ty_55, ty_56, ty_57, ty_58, ty_59, ty_60, ty_61, ty_62, ty_63, ty_64, ty_65, ty_66, ty_67, ty_68, ty_69, ty_70, ty_71, ty_72, ty_73, ty_74, ty_75, ty_76, ty_77, ty_78, ty_79, ty_80, ty_81, ty_82, ty_83, ty_84, ty_85, ty_86, ty_87, ty_88, ty_89, ty_90, ty_91, ty_92, ty_93, ty_94, ty_95, ty_96, ty_97, ty_98, ty_99, ty_100, ty_101, ty_102, ty_103, ty_104, ty_105, ty_106, ty_107, ty_108, ty_109, ty_110, ty_111, ty_112, ty_113, ty_114, ty_115, ty_116, ty_117, ty_118, ty_119, ty_120, ty_121, ty_122, ty_123, ty_124, ty_125, ty_126, ty_127, ty_128, ty_129, pl_3_4, pl_4_3, pl_6_5, pl_9_1, pl_14_6, pl_18_6, pl_20_1, pl_29_6, pl_29_11, pl_30_3, pl_30_5, pl_30_9, pl_33_1, pl_33_10, pl_38_17, pl_46_4, pl_46_6, pl_47_10, pl_48_10, pl_50_3, pl_51_5, pl_51_11, pl_51_16, pl_51_17, pl_51_22, pl_51_23, pl_53_1, pl_53_3, pl_53_5, pl_53_8, pl_54_1, pl_54_3, pl_54_5, pl_54_8, pl_54_10, pl_54_13, pl_54_15, pl_54_18, pl_54_21, pl_60_3, pl_60_5, pl_60_6, pl_62_1, pl_62_2, pl_62_3, pl_69_1, pl_72_3, pl_88_9, pl_88_18, pl_89_9, eLty, eLpl, evEq, k7, k8, hi, hb, k13, k14, k15, k16]
/-- TreeSame. -/
theorem law6 (a b : Nd) (n : Int) (ha : fit a) (hb : fit b) (hn : -9223372036854775808 ≤ n ∧ n ≤ 9223372036854775807) : ∃ h1, evL eL 6 [a.av, b.av, .int .i64 n] ⟨.e, 0⟩ = some (.bool true, h1) := by
  obtain ⟨o, p, q, m, at_, ks⟩ := a
  have ha' : fit (.mk o p q m n ks) := by simp only [fit] at ha ⊢; exact ⟨ha.1, ha.2.1, ha.2.2.1, ha.2.2.2.1, hn, ha.2.2.2.2.2⟩
  have k7a := L7 ha
  have k7b := L7 hb
  have k17 := L17 ha hb
  have k18 := L18 ha hb
  have k17' := L17 ha ha'
  rw [sameF_self] at k17'
  have k13 := L13
  generalize sizeF (.mk o p q m at_ ks) = sa at *
  generalize sizeF b = sb at *
  generalize sameF (.mk o p q m at_ ks) b = s at *
  simp only [Nd.av] at *
  rw [cells_ b] at *
  rw [evL_fn eL (by kernel_rfl) (by kernel_rfl) (show Tryd.f6.body = some (codeAt Tryd.f6 []) from rfl) _ _ rfl]
  simp only [codeAt, sub, Tryd.f6]
  cases h1 : ltI 200 sa with
  | true => simp [cdL_seq, cdL_region, cdL_drawn, cdL_cond, cdL_block, cdL_skip, cdL_label, cdL_exit, cdL_ret, endL, evSeq, evOne, evAct, evOp, opKind, evPure, evRead, evNew, evWrite, evSlice, natOf, optVal, readAt, AV.cells, wantedA, putTm, val, allVals, evBin, evInt, evStr, evAppend, evMin, denseFrom, sizesAre, onesIn, evPlan, recheck, AV.beq_refl, H.new, H.put, fillF, fillAt, allOne, AV.one, setArgs, evRes, resOf, ofVal, ofVal0, blt_dec, ble_dec, beq_dec, T.get_set_ite, T.get_e, isShift, ikBeq, ty_0, ty_1, ty_2, ty_3, ty_4, ty_5, ty_6, ty_7, ty_8, ty_9, ty_10, ty_11, ty_12, ty_13, ty_14, ty_15, ty_16, ty_17, ty_18, ty_19, ty_20, ty_21, ty_22, ty_23, ty_24, ty_25, ty_26, ty_27, ty_28, ty_29, ty_30, ty_31, ty_32, ty_33, ty_34, ty_35, ty_36, ty_37, ty_38, ty_39, ty_40, ty_41, ty_42, ty_43, ty_44, ty_45, ty_46, ty_47, ty_48, ty_49, ty_50, ty_51, ty_52, ty_53, ty_54, ty_55, ty_56, ty_57, ty_58, ty_59, ty_60, ty_61, ty_62, ty_63, ty_64, ty_65, ty_66, ty_67, ty_68, ty_69, ty_70, ty_71, ty_72, ty_73, ty_74, ty_75, ty_76, ty_77, ty_78, ty_79, ty_80, ty_81, ty_82, ty_83, ty_84, ty_85, ty_86, ty_87, ty_88, ty_89, ty_90, ty_91, ty_92, ty_93, ty_94, ty_95, ty_96, ty_97, ty_98, ty_99, ty_100, ty_101, ty_102, ty_103, ty_104, ty_105, ty_106, ty_107, ty_108, ty_109, ty_110, ty_111, ty_112, ty_113, ty_114, ty_115, ty_116, ty_117, ty_118, ty_119, ty_120, ty_121, ty_122, ty_123, ty_124, ty_125, ty_126, ty_127, ty_128, ty_129, pl_3_4, pl_4_3, pl_6_5, pl_9_1, pl_14_6, pl_18_6, pl_20_1, pl_29_6, pl_29_11, pl_30_3, pl_30_5, pl_30_9, pl_33_1, pl_33_10, pl_38_17, pl_46_4, pl_46_6, pl_47_10, pl_48_10, pl_50_3, pl_51_5, pl_51_11, pl_51_16, pl_51_17, pl_51_22, pl_51_23, pl_53_1, pl_53_3, pl_53_5, pl_53_8, pl_54_1, pl_54_3, pl_54_5, pl_54_8, pl_54_10, pl_54_13, pl_54_15, pl_54_18, pl_54_21, pl_60_3, pl_60_5, pl_60_6, pl_62_1, pl_62_2, pl_62_3, pl_69_1, pl_72_3, pl_88_9, pl_88_18, pl_89_9, eLty, eLpl, evEq, k7a, h1]
  | false =>
    cases h2 : ltI 200 sb with
    | true => simp [cdL_seq, cdL_region, cdL_drawn, cdL_cond, cdL_block, cdL_skip, cdL_label, cdL_exit, cdL_ret, endL, evSeq, evOne, evAct, evOp, opKind, evPure, evRead, evNew, evWrite, evSlice, natOf, optVal, readAt, AV.cells, wantedA, putTm, val, allVals, evBin, evInt, evStr, evAppend, evMin, denseFrom, sizesAre, onesIn, evPlan, recheck, AV.beq_refl, H.new, H.put, fillF, fillAt, allOne, AV.one, setArgs, evRes, resOf, ofVal, ofVal0, blt_dec, ble_dec, beq_dec, T.get_set_ite, T.get_e, isShift, ikBeq, ty_0, ty_1, ty_2, ty_3, ty_4, ty_5, ty_6, ty_7, ty_8, ty_9, ty_10, ty_11, ty_12, ty_13, ty_14, ty_15, ty_16, ty_17, ty_18, ty_19, ty_20, ty_21, ty_22, ty_23, ty_24, ty_25, ty_26, ty_27, ty_28, ty_29, ty_30, ty_31, ty_32, ty_33, ty_34, ty_35, ty_36, ty_37, ty_38, ty_39, ty_40, ty_41, ty_42, ty_43, ty_44, ty_45, ty_46, ty_47, ty_48, ty_49, ty_50, ty_51, ty_52, ty_53, ty_54, ty_55, ty_56, ty_57, ty_58, ty_59, ty_60, ty_61, ty_62, ty_63, ty_64, ty_65, ty_66, ty_67, ty_68, ty_69, ty_70, ty_71, ty_72, ty_73, ty_74, ty_75, ty_76, ty_77, ty_78, ty_79, ty_80, ty_81, ty_82, ty_83, ty_84, ty_85, ty_86, ty_87, ty_88, ty_89, ty_90, ty_91, ty_92, ty_93, ty_94, ty_95, ty_96, ty_97, ty_98, ty_99, ty_100, ty_101, ty_102, ty_103, ty_104, ty_105, ty_106, ty_107, ty_108, ty_109, ty_110, ty_111, ty_112, ty_113, ty_114, ty_115, ty_116, ty_117, ty_118, ty_119, ty_120, ty_121, ty_122, ty_123, ty_124, ty_125, ty_126, ty_127, ty_128, ty_129, pl_3_4, pl_4_3, pl_6_5, pl_9_1, pl_14_6, pl_18_6, pl_20_1, pl_29_6, pl_29_11, pl_30_3, pl_30_5, pl_30_9, pl_33_1, pl_33_10, pl_38_17, pl_46_4, pl_46_6, pl_47_10, pl_48_10, pl_50_3, pl_51_5, pl_51_11, pl_51_16, pl_51_17, pl_51_22, pl_51_23, pl_53_1, pl_53_3, pl_53_5, pl_53_8, pl_54_1, pl_54_3, pl_54_5, pl_54_8, pl_54_10, pl_54_13, pl_54_15, pl_54_18, pl_54_21, pl_60_3, pl_60_5, pl_60_6, pl_62_1, pl_62_2, pl_62_3, pl_69_1, pl_72_3, pl_88_9, pl_88_18, pl_89_9, eLty, eLpl, evEq, k7a, k7b, h1, h2]
    | false => cases s <;> simp [cdL_seq, cdL_region, cdL_drawn, cdL_cond, cdL_block, cdL_skip, cdL_label, cdL_exit, cdL_ret, endL, evSeq, evOne, evAct, evOp, opKind, evPure, evRead, evNew, evWrite, evSlice, natOf, optVal, readAt, AV.cells, wantedA, putTm, val, allVals, evBin, evInt, evStr, evAppend, evMin, denseFrom, sizesAre, onesIn, evPlan, recheck, AV.beq_refl, H.new, H.put, fillF, fillAt, allOne, AV.one, setArgs, evRes, resOf, ofVal, ofVal0, blt_dec, ble_dec, beq_dec, T.get_set_ite, T.get_e, isShift, ikBeq, ty_0, ty_1, ty_2, ty_3, ty_4, ty_5, ty_6, ty_7, ty_8, ty_9, ty_10, ty_11, ty_12, ty_13, ty_14, ty_15, ty_16, ty_17, ty_18, ty_19, ty_20, ty_21, ty_22, ty_23, ty_24, ty_25, ty_26, ty_27, ty_28, ty_29, ty_30, ty_31, ty_32, ty_33, ty_34, ty_35, ty_36, ty_37, ty_38, ty_39, ty_40, ty_41, ty_42, ty_43, ty_44, ty_45, ty_46, ty_47, ty_48, ty_49, ty_50, ty_51, ty_52, ty_53, ty_54, ty_55, ty_56, ty_57, ty_58, ty_59, ty_60, ty_61, ty_62, ty_63, ty_64, ty_65, ty_66, ty_67, ty_68, ty_69, ty_70, ty_71, ty_72, ty_73, ty_74, ty_75, ty_76, ty_77, ty_78, ty_79, ty_80, ty_81, ty_82, ty_83, ty_84, ty_85, ty_86, ty_87, ty_88, ty_89, ty_90, ty_91, ty_92, ty_93, ty_94, ty_95, ty_96, ty_97, ty_98, ty_99, ty_100, ty_101, ty_102, ty_103, ty_104, ty_105, ty_106, ty_107, ty_108, ty_109, ty_110, ty_111, ty_112, ty_113, ty_114, ty_115, ty_116, ty_117, ty_118, ty_119, ty_120, ty_121, ty_122, ty_123, ty_124, ty_125, ty_126, ty_127, ty_128, ty_129, pl_3_4, pl_4_3, pl_6_5, pl_9_1, pl_14_6, pl_18_6, pl_20_1, pl_29_6, pl_29_11, pl_30_3, pl_30_5, pl_30_9, pl_33_1, pl_33_10, pl_38_17, pl_46_4, pl_46_6, pl_47_10, pl_48_10, pl_50_3, pl_51_5, pl_51_11, pl_51_16, pl_51_17, pl_51_22, pl_51_23, pl_53_1, pl_53_3, pl_53_5, pl_53_8, pl_54_1, pl_54_3, pl_54_5, pl_54_8, pl_54_10, pl_54_13, pl_54_15, pl_54_18, pl_54_21, pl_60_3, pl_60_5, pl_60_6, pl_62_1, pl_62_2, pl_62_3, pl_69_1, pl_72_3, pl_88_9, pl_88_18, pl_89_9, eLty, eLpl, evEq, k7a, k7b, h1, h2, k17, k18, k17', k13]
end Go.Proofs.YtmnhhlkbpjemnaaDoor.Env
