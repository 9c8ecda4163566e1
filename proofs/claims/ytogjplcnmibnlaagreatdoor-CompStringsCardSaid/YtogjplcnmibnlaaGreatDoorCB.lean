/- tree.Free as a primitive: the machine runs all but the sorting. -/
import Derived.Test.YtogjplcnmibnlaaGreatDoorCA
import Derived.Test.YtogjplcnmibnlaaGreatDoorEwF
set_option autoImplicit false
set_option maxRecDepth 100000
set_option linter.unusedSimpArgs false
set_option linter.unusedVariables false
set_option linter.unusedSectionVars false
namespace Go.Proofs.YtogjplcnmibnlaaGreatDoor.Env
open Go.Ev

def toB (s : List Nat) : List UInt8 := s.map UInt8.ofNat
def ofB (b : List UInt8) : List Nat := b.map (·.toNat)
abbrev sortB (l : List (List UInt8)) : List (List UInt8) := l.mergeSort fun x y => decide (x ≤ y)
theorem nl_irr : ∀ a : List Nat, nLess a a = false
  | [] => rfl
  | a :: l => by simp only [nLess, nl_irr l, Bool.and_false, Bool.or_false]; exact Bool.eq_false_iff.2 fun h => by rw [Nat.blt_eq] at h; omega
theorem nl_tr : ∀ {a b c : List Nat}, nLess a b = true → nLess b c = true → nLess a c = true
  | _, [], _, h, _ => by cases ‹List Nat› <;> simp [nLess] at h
  | _, _ :: _, [], _, h => by simp [nLess] at h
  | [], _ :: _, _ :: _, _, _ => rfl
  | a :: x, b :: y, c :: z, h1, h2 => by
    simp only [nLess, Bool.or_eq_true, Bool.and_eq_true, Nat.blt_eq, Nat.beq_eq] at h1 h2 ⊢
    rcases h1 with h1 | ⟨e1, h1⟩ <;> rcases h2 with h2 | ⟨e2, h2⟩
    · exact .inl (by omega)
    · exact .inl (by omega)
    · exact .inl (by omega)
    · exact .inr ⟨by omega, nl_tr h1 h2⟩
theorem nl_as {a b : List Nat} (h : nLess a b = true) : nLess b a = false := by
  cases hb : nLess b a with
  | false => rfl
  | true => have := nl_tr h hb; rw [nl_irr] at this; cases this
theorem nl_tot : ∀ {a b : List Nat}, nLess a b = false → nLess b a = false → a = b
  | [], [], _, _ => rfl
  | [], _ :: _, h, _ => by simp [nLess] at h
  | _ :: _, [], _, h => by simp [nLess] at h
  | a :: x, b :: y, h1, h2 => by
    simp only [nLess, Bool.or_eq_false_iff, Bool.and_eq_false_iff] at h1 h2
    have e1 : ¬ a < b := fun h => by have := h1.1; rw [show Nat.blt a b = true from by rw [Nat.blt_eq]; exact h] at this; cases this
    have e2 : ¬ b < a := fun h => by have := h2.1; rw [show Nat.blt b a = true from by rw [Nat.blt_eq]; exact h] at this; cases this
    have e : a = b := by omega
    subst e
    have hb : Nat.beq a a = true := by rw [Nat.beq_eq]
    rcases h1.2 with h | h
    · rw [hb] at h; cases h
    · rcases h2.2 with k | k
      · rw [hb] at k; cases k
      · rw [nl_tot h k]
theorem ofB_toB {s : List Nat} (h : ∀ x ∈ s, x < 256) : ofB (toB s) = s := by
  unfold ofB toB
  rw [List.map_map]
  conv => rhs; rw [← List.map_id s]
  refine List.map_congr_left fun x hx => ?_
  have := h x hx
  simp [Function.comp, UInt8.toNat_ofNat', Nat.mod_eq_of_lt this]
theorem toB_ofB (b : List UInt8) : toB (ofB b) = b := by
  unfold ofB toB
  rw [List.map_map]
  conv => rhs; rw [← List.map_id b]
  exact List.map_congr_left fun x _ => by simp
theorem ofB_lt (b : List UInt8) : ∀ x ∈ ofB b, x < 256 := by
  intro x hx
  obtain ⟨y, _, rfl⟩ := List.mem_map.1 hx
  exact y.toNat_lt
theorem lt_iff : ∀ a b : List UInt8, nLess (ofB a) (ofB b) = true ↔ a < b
  | [], [] => by simp [ofB, nLess]
  | [], _ :: _ => by simp [ofB, nLess]
  | _ :: _, [] => by simp [ofB, nLess]
  | a :: x, b :: y => by
    have := lt_iff x y
    unfold ofB at this
    rw [List.cons_lt_cons_iff, ← this]
    simp only [ofB, List.map_cons, nLess, Bool.or_eq_true, Bool.and_eq_true, Nat.blt_eq, Nat.beq_eq, UInt8.lt_iff_toNat_lt]
    rw [UInt8.toNat_inj]
theorem le_iff (a b : List UInt8) : nLess (ofB b) (ofB a) = false ↔ a ≤ b := by
  rw [← List.not_lt, ← lt_iff]
  cases nLess (ofB b) (ofB a) <;> simp
theorem le_rf (a : List UInt8) : a ≤ a := (le_iff a a).1 (nl_irr _)
theorem le_an (a b : List UInt8) (h1 : a ≤ b) (h2 : b ≤ a) : a = b := by
  have := nl_tot ((le_iff _ _).2 h2) ((le_iff _ _).2 h1)
  rw [← toB_ofB a, ← toB_ofB b, this]
theorem le_tr (a b c : List UInt8) (h1 : a ≤ b) (h2 : b ≤ c) : a ≤ c := by
  rw [← le_iff] at h1 h2 ⊢
  cases hb : nLess (ofB c) (ofB a) with
  | false => rfl
  | true =>
    cases h3 : nLess (ofB a) (ofB b) with
    | true => rw [nl_tr hb h3] at h2; cases h2
    | false => rw [nl_tot h3 h1] at hb; rw [hb] at h2; cases h2
theorem le_tot (a b : List UInt8) : a ≤ b ∨ b ≤ a := by
  rw [← le_iff, ← le_iff]
  cases hb : nLess (ofB b) (ofB a) with
  | false => exact .inl rfl
  | true => exact .inr (nl_as hb)
theorem sortB_sorted (zs : List (List UInt8)) : (sortB zs).Pairwise fun x y => x ≤ y := by
  have := List.pairwise_mergeSort (le := fun x y : List UInt8 => decide (x ≤ y)) (fun a b c h1 h2 => by simp only [decide_eq_true_eq] at *; exact le_tr a b c h1 h2) (fun a b => by simp only [Bool.or_eq_true, decide_eq_true_eq]; exact le_tot a b) zs
  exact List.Pairwise.imp (fun h => by simpa using h) this
theorem bytes_of (z : List UInt8) : bytesOf ⟨z.toArray⟩ = ofB z := by simp [bytesOf, ofB]
theorem enc_VR (G : Gh) (w : World) (z : List UInt8) : VR G w (Go.Proofs.encStr z) (.str (ofB z)) := by
  rw [← bytes_of]
  exact .str ⟨z.toArray⟩
theorem enc_inv (G : Gh) (w : World) (V : Value) (z : List UInt8) (r : VR G w V (.str (ofB z))) : V = Go.Proofs.encStr z := by
  generalize he : ofB z = l at r
  cases r with
  | str s =>
    have : s.data.toList = z := by
      have e : toB (bytesOf s) = toB (ofB z) := by rw [he]
      rw [toB_ofB] at e
      rw [← e]
      exact (toB_ofB s.data.toList).symm
    show Value.string s = .string ⟨z.toArray⟩
    rw [← this]

/-! Rows of texts -/
def insN (v : List Nat) : List (List Nat) → List (List Nat)
  | [] => [v]
  | a :: l => bif nLess v a then v :: a :: l else bif natsBeq v a then a :: l else a :: insN v l
def sortN : List (List Nat) → List (List Nat)
  | [] => []
  | a :: l => insN a (sortN l)
theorem insN_mem (v : List Nat) : ∀ (l : List (List Nat)) (x : List Nat), x ∈ insN v l ↔ x = v ∨ x ∈ l
  | [], x => by simp [insN]
  | a :: l, x => by
    simp only [insN]
    cases h1 : nLess v a with
    | true => simp
    | false =>
      cases h2 : natsBeq v a with
      | true =>
        rw [natsBeq_eq] at h2
        have : v = a := by simpa using h2
        subst this
        simp
      | false =>
        simp only [cond_false, List.mem_cons, insN_mem v l x]
        constructor
        · rintro (h | h | h) <;> simp [h]
        · rintro (h | h | h) <;> simp [h]
theorem insN_up (v : List Nat) : ∀ (l : List (List Nat)), l.Pairwise (fun x y => nLess x y = true) → (insN v l).Pairwise (fun x y => nLess x y = true)
  | [], _ => by simp [insN]
  | a :: l, h => by
    have h' := List.pairwise_cons.1 h
    simp only [insN]
    cases h1 : nLess v a with
    | true =>
      refine List.pairwise_cons.2 ⟨fun x hx => ?_, h⟩
      rcases List.mem_cons.1 hx with rfl | hx
      · exact h1
      · exact nl_tr h1 (h'.1 x hx)
    | false =>
      cases h2 : natsBeq v a with
      | true => exact h
      | false =>
        rw [natsBeq_eq] at h2
        have hne : v ≠ a := by simpa using h2
        simp only [cond_false]
        refine List.pairwise_cons.2 ⟨fun x hx => ?_, insN_up v l h'.2⟩
        rcases (insN_mem v l x).1 hx with rfl | hx
        · cases h3 : nLess a x with
          | true => rfl
          | false => exact absurd (nl_tot h1 h3) hne
        · exact h'.1 x hx
theorem sortN_up : ∀ l, (sortN l).Pairwise (fun x y => nLess x y = true)
  | [] => List.Pairwise.nil
  | a :: l => insN_up a _ (sortN_up l)
theorem sortN_mem : ∀ (l : List (List Nat)) (x : List Nat), x ∈ sortN l ↔ x ∈ l
  | [], x => by simp [sortN]
  | a :: l, x => by simp only [sortN, insN_mem, sortN_mem l x, List.mem_cons]
theorem sortN_eq (zs : List (List UInt8)) : (Lib.compact (sortB zs)).map ofB = sortN (zs.map ofB) := by
  obtain ⟨q1, q2⟩ := compact_sorted le_rf le_tr le_an (sortB_sorted zs)
  have hm : ∀ x ∈ sortN (zs.map ofB), ofB (toB x) = x := by
    intro x hx
    rw [sortN_mem] at hx
    obtain ⟨z, _, rfl⟩ := List.mem_map.1 hx
    rw [toB_ofB]
  have e1 : ((sortN (zs.map ofB)).map toB).map ofB = sortN (zs.map ofB) := by
    rw [List.map_map]
    conv => rhs; rw [← List.map_id (sortN (zs.map ofB))]
    exact List.map_congr_left fun x hx => hm x hx
  rw [← e1]
  congr 1
  refine strict_eq (le := fun x y : List UInt8 => x ≤ y) le_an q1 ?_ fun x => ?_
  · rw [List.pairwise_map]
    refine List.Pairwise.imp_of_mem (fun {a b} ha hb h => ?_) (sortN_up (zs.map ofB))
    refine ⟨(le_iff _ _).1 ?_, fun e => ?_⟩
    · rw [hm a ha, hm b hb]
      exact nl_as h
    · have : a = b := by rw [← hm a ha, ← hm b hb, e]
      rw [this, nl_irr] at h
      cases h
  · rw [q2, List.mem_mergeSort]
    constructor
    · intro hx
      exact List.mem_map.2 ⟨ofB x, (sortN_mem _ _).2 (List.mem_map.2 ⟨x, hx, rfl⟩), toB_ofB x⟩
    · intro hx
      obtain ⟨y, hy, rfl⟩ := List.mem_map.1 hx
      rw [sortN_mem] at hy
      obtain ⟨z, hz, rfl⟩ := List.mem_map.1 hy
      rw [toB_ofB]
      exact hz
def strsOf : List AV → Option (List (List UInt8))
  | [] => some []
  | .str s :: l => match strsOf l with
    | none => none
    | some m => bif s.all (fun x => Nat.blt x 256) then some (toB s :: m) else none
  | _ :: _ => none
theorem strsOf_some : ∀ {l : List AV} {m : List (List UInt8)}, strsOf l = some m → l = m.map fun z => AV.str (ofB z)
  | [], m, h => by simp [strsOf] at h; subst h; rfl
  | a :: l, m, h => by
    unfold strsOf at h
    split at h
    · rename_i heq; cases heq
    · rename_i s l' heq
      cases heq
      cases hm : strsOf l with
      | none => rw [hm] at h; simp at h
      | some q =>
        rw [hm] at h
        simp only at h
        cases hs : s.all (fun x => Nat.blt x 256) with
        | false => rw [hs] at h; simp at h
        | true =>
          rw [hs] at h
          simp only [cond_true, Option.some.injEq] at h
          subst h
          rw [strsOf_some hm, List.map_cons, ofB_toB fun x hx => blt_nat.1 (List.all_eq_true.1 hs x hx)]
    · cases h
theorem sortC40 : SortC Tryz.prog Go.Proofs.encStr sortB 40 where
  fn := ⟨_, Tryz.func40, by kernel_rfl, by kernel_rfl⟩
  len := fun zs => List.length_mergeSort zs
  nil := by simp [sortB]
  row := fun g cap zs w hH hg hl => calls_of_every_depth fun D => AnyS.slices_Sort_string_alone Tryz.lays190 D g 0 cap zs w hH hg hl
  none := fun p cap w => calls_of_every_depth fun D => AnyS.slices_Sort_string_none_alone Tryz.lays190 D p cap w
theorem compC41 : CompC Tryz.prog Go.Proofs.encStr ([] : List UInt8) 41 where
  fn := ⟨_, Tryz.func41, by kernel_rfl, by kernel_rfl⟩
  row := fun g cap zs w hH hl hc => calls_of_every_depth fun D => AnyS.slices_Compact_string_in Tryz.lays194 D g 0 cap zs w hH hl hc
  none := fun p cap w => calls_of_every_depth fun D => AnyS.slices_Compact_string_empty_in Tryz.lays194 D p cap w
noncomputable def b21_0 : Code := loopOf Tryz.f21 0
noncomputable def pre21 : Code := .seq (codeAt Tryz.f21 [0]) (.seq (codeAt Tryz.f21 [1, 0]) (.seq (codeAt Tryz.f21 [1, 1, 0]) (.seq (codeAt Tryz.f21 [1, 1, 1, 0, 0]) (.block 0 (.loop b21_0)))))
noncomputable def all21 : Code := .seq (codeAt Tryz.f21 [0]) (.seq (codeAt Tryz.f21 [1, 0]) (.seq (codeAt Tryz.f21 [1, 1, 0]) (.seq (.seq (codeAt Tryz.f21 [1, 1, 1, 0, 0]) (.block 0 (.loop b21_0))) (codeAt Tryz.f21 [1, 1, 1, 1]))))
theorem body21 : Tryz.f21.body = some all21 := rfl
/-- The row is the call's own, or empty. -/
def ownRow (o : Own) (n : Nat) (h : H) : Bool :=
  match o with
  | .full => Nat.beq n 0
  | .ch id => match h.t.get id with
    | some (.chain m e s) => Nat.beq m n && (Nat.beq e 9 && Nat.beq s 1)
    | _ => false
  | .no => false
noncomputable def env0 : Env := addPrim env 127 (primGrow 9 1 16)
theorem env0_ok : EnvOk Tryz.prog env0 := addPrim_ok env_ok pGrow_ok
/-- The part that is sorted. -/
noncomputable def pSort (E : Env) (a : AV) : Option AV :=
  match evCode (evFn E 60) E 21 47 60 pre21 (setArgs 0 [a] .e) ⟨.e, 0⟩ with
  | some (.normal, tm, h) => match tm.get 3 with
    | some (.sl o els) => match strsOf els with
      | some l => bif ownRow o l.length h && Nat.ble l.length 1000000 then some (.sl .no ((sortN (l.map ofB)).map AV.str)) else none
      | none => none
    | _ => none
  | _ => none
/-- The part that is not. -/
noncomputable def pRet (E : Env) (a : AV) : Option AV :=
  match evCode (evFn E 60) E 21 47 60 all21 (setArgs 0 [a] .e) ⟨.e, 0⟩ with
  | some (.ret, tm, h) => match evRes E.ty tm h Tryz.f21.results.toList with
    | some l => snapAV 40 h (resOf l)
    | none => none
  | _ => none
def primBare (p : List AV → Option AV) (args : List AV) (h : H) : Option (AV × H) :=
  match AV.baresF args with
  | none => none
  | some a => match p a with
    | none => none
    | some v => some (v, h)
noncomputable def pT : Nat → List AV → Option AV
  | 0, _ => none
  | k + 1, args => match args with
    | [a] => match pSort (addPrim env0 21 (primBare (pT k))) a with
      | some v => some v
      | none => pRet (addPrim env0 21 (primBare (pT k))) a
    | _ => none
theorem pSort_some {E : Env} {a v : AV} (h : pSort E a = some v) : ∃ tm h' o, ∃ l : List (List UInt8), cdL E 21 47 pre21 (setArgs 0 [a] .e) ⟨.e, 0⟩ = some (.normal, tm, h') ∧ tm.get 3 = some (.sl o (l.map fun z => AV.str (ofB z))) ∧ ownRow o l.length h' = true ∧ l.length ≤ 1000000 ∧ v = .sl .no ((sortN (l.map ofB)).map AV.str) := by
  unfold pSort at h
  split at h
  · rename_i tm h' he
    split at h
    · rename_i o els hg
      split at h
      · rename_i l hi
        cases hc : (ownRow o l.length h' && Nat.ble l.length 1000000) with
        | false => rw [hc] at h; simp at h
        | true =>
          rw [hc] at h
          simp only [cond_true, Option.some.injEq] at h
          simp only [Bool.and_eq_true] at hc
          exact ⟨tm, h', o, l, lim_some (mono_cd E 21 47 pre21 _ _) he, by rw [← strsOf_some hi]; exact hg, hc.1, Nat.le_of_ble_eq_true hc.2, h.symm⟩
      · cases h
    · cases h
  · cases h
theorem pRet_some {E : Env} {a v : AV} (h : pRet E a = some v) : ∃ u h', bodyL E 21 Tryz.f21 all21 [a] ⟨.e, 0⟩ = some (u, h') ∧ snapAV 40 h' u = some v := by
  unfold pRet at h
  split at h
  · rename_i tm h' he
    split at h
    · rename_i l hl
      refine ⟨resOf l, h', ?_, h⟩
      unfold bodyL
      rw [show cdL E 21 Tryz.f21.ntmps all21 (setArgs 0 [a] .e) ⟨.e, 0⟩ = _ from lim_some (mono_cd E 21 47 all21 _ _) he]
      unfold endL
      simp only [hl]
    · cases h
  · cases h
theorem pT_ok : ∀ k, PrimOk Tryz.prog 21 (primBare (pT k)) := by
  intro k
  induction k with
  | zero => exact ⟨⟨Tryz.f21, Tryz.func21, by kernel_rfl, by kernel_rfl⟩, fun args h v h' he => by unfold primBare at he; split at he <;> simp [pT] at he⟩
  | succ k ih =>
    have hE : EnvOk Tryz.prog (addPrim env0 21 (primBare (pT k))) := addPrim_ok env0_ok ih
    generalize hEq : addPrim env0 21 (primBare (pT k)) = E at hE
    have hfn : E.fns 21 = some Tryz.f21 := by rw [← hEq]; exact (by kernel_rfl : env0.fns 21 = some Tryz.f21)
    refine ⟨⟨Tryz.f21, Tryz.func21, by kernel_rfl, by kernel_rfl⟩, fun args h v hk he G w A I hA => ?_⟩
    unfold primBare at he
    cases hs : AV.baresF args with
    | none => rw [hs] at he; simp at he
    | some args' =>
      rw [hs] at he
      simp only at he
      cases hv : pT (k + 1) args' with
      | none => rw [hv] at he; simp at he
      | some v0 =>
        rw [hv] at he
        simp only [Option.some.injEq, Prod.mk.injEq] at he
        obtain ⟨rfl, rfl⟩ := he
        have hA' : VRs (Gp G) w A.toList args' := VRs.wk (n := 0) (G := G) (G' := Gp G) (fun b o v s => s) (fun id b hi => by omega) (fun id m v hi => by omega) hA (baresF_wk _ _ hs).1
        unfold pT at hv
        split at hv
        · rename_i a
          rw [hEq] at hv
          cases hps : pSort E a with
          | some v1 =>
            rw [hps] at hv
            simp only [Option.some.injEq] at hv
            subst hv
            obtain ⟨tm, h', o, l, hx, g3, hr, hll, rfl⟩ := pSort_some hps
            have key : Calls Tryz.prog 21 A w fun e w' => ∃ V, e = .returned V ∧ Old w w' ∧ ∀ G' : Gh, (∀ b, w.heap.size ≤ b → G'.fr b = none) → VR G' w' V (.sl .no ((sortN (l.map ofB)).map AV.str)) := by
              refine calls_of_wp Tryz.func21 body21 ?_
              have hAl : A.size = 1 := by have := hA'.1; simpa using this
              have T0 : TmR (Gp G) w 47 (setArgs 0 [a] .e) { tmps := A ++ Array.replicate (47 - A.size) undef, defers := [] } := tmr_start (by simp) hA'
              have hco := hE.plans 21 Tryz.f21 _ hfn body21
              refine seq4_sim hE (by unfold all21 at hco; simp only [codeOk, Bool.and_eq_true] at hco ⊢; exact ⟨hco.1, hco.2.1, hco.2.2.1, hco.2.2.2.1⟩) (invp I) T0 hx fun G1 w1 a1 I1 X1 T1 d1 => ?_
              have r := T1.val 3 _ g3
              have hsz := T1.size
              have hfr : (o = .full ∧ l = []) ∨ ∃ id, o = .ch id ∧ h'.t.get id = some (.chain l.length 9 1) := by
                unfold ownRow at hr
                split at hr
                · exact .inl ⟨rfl, List.eq_nil_of_length_eq_zero (beq_nat.1 hr)⟩
                · rename_i id
                  split at hr
                  · rename_i n e s hg
                    simp only [Bool.and_eq_true, beq_nat] at hr
                    obtain ⟨rfl, rfl, rfl⟩ := hr
                    exact .inr ⟨id, rfl, hg⟩
                  · cases hr
                · cases hr
              have ho := row_owned (G := G) (enc := Go.Proofs.encStr) I1 X1 (av := fun z => AV.str (ofB z)) enc_inv (fun _ => rfl) hfr r
              obtain ⟨o0, o1, o2, o3, o4, hT, q0, q1, q2, q3, q4⟩ : ∃ o0 o1 o2 o3 o4, codeAt Tryz.f21 [1, 1, 1, 1] = .seq (.region 15 #[o0, o1] false) (.seq (.region 16 #[o2, o3, o4] false) .ret) ∧ (o0.op = .move (.tmp 3) ∧ o0.dst = some 43 ∧ o0.guard = none) ∧
                  (o1.op = .call { callee := .value (.func 40), args := #[.tmp 43], argTypes := #[25] } ∧ o1.dst = some 44 ∧ o1.guard = none) ∧ (o2.op = .move (.tmp 3) ∧ o2.dst = some 45 ∧ o2.guard = none) ∧
                  (o3.op = .call { callee := .value (.func 41), args := #[.tmp 45], argTypes := #[25] } ∧ o3.dst = some 46 ∧ o3.guard = none) ∧ (o4.op = .assign (.tmp 46) ∧ o4.dst = some 2 ∧ o4.guard = none) :=
                ⟨_, _, _, _, _, rfl, ⟨rfl, rfl, rfl⟩, ⟨rfl, rfl, rfl⟩, ⟨rfl, rfl, rfl⟩, ⟨rfl, rfl, rfl⟩, ⟨rfl, rfl, rfl⟩⟩
              rw [hT, ← sortN_eq, List.map_map]
              exact tail_sc (e := 9) sortC40 compC41 (av := fun z => AV.str (ofB z)) enc_VR (fun _ => rfl) rfl (below_of_ext X1) (by omega) ho q0 q1 q2 q3 q4 rfl d1 rfl (by rw [hsz]; omega) (by omega)
            refine key.mono ?_
            rintro e w' ⟨V, rfl, O, hV⟩
            refine ⟨G, V, rfl, hV G fun b hb => ?_, grow_inv I O.os O.tape O.output O.size O.same, grow_ext G _ O.os O.tape O.output O.size O.same⟩
            cases hf : G.fr b with
            | none => rfl
            | some k => exact absurd (I.frb b k hf).2 (by omega)
          | none =>
            rw [hps] at hv
            obtain ⟨u, h', hb, hsn⟩ := pRet_some hv
            exact ((bodyL_sim hE hfn body21 (by kernel_rfl) hb).2 (Gp G) w A (invp I) hA').mono fun e w' hp => post_snap I hsn hp
        · cases hv
end Go.Proofs.YtogjplcnmibnlaaGreatDoor.Env
