/- All tokens of a text as one function; both programs' loops come to it. -/
import Derived.Test.YtncccgglillmoaaGreatDoorZTRNum
set_option autoImplicit false
set_option maxRecDepth 100000
set_option linter.unusedSimpArgs false
set_option linter.unusedVariables false
set_option linter.unusedSectionVars false
namespace Go.Proofs.YtncccgglillmoaaGreatDoor.Lx
open Go.Ev Go.Proofs.YtncccgglillmoaaGreatDoor.Env

theorem cd_of {E : Env} {f n k1 k2 : Nat} {c : Code} {tm : Tm} {h : H} {r : Ex × Tm × H} (he : evCode (evFn E k1) E f n k2 c tm h = some r) : cdL E f n c tm h = some r :=
  (cdL_iff E f n tm h).2 ⟨max k1 k2, up E f n (Nat.le_max_left ..) he _ (Nat.le_max_right ..)⟩

/-! ### One token -/
def tokish (t : AV) : Prop := ∃ (x1 : Int) (x2 : List Nat) (x3 x4 : Int), t = .agg [.int .i64 x1, .str x2, .int .i64 x3, .int .i64 x4]
def tokAt (s : List Nat) (i : Nat) : Option (AV × Nat) := match tokRes s i with
  | .tup [t, .int .i64 (.ofNat n), .bool true] => some (t, n)
  | _ => none
def lx : Nat → List Nat → Nat → List AV → List AV × Option Nat
  | 0, _, _, l => (l, none)
  | f + 1, s, i, l => match s[i]? with
    | none => (l, none)
    | some c => bif isBlank c then lx f s (i + 1) l else match tokAt s i with
      | some (t, n) => lx f s (i + n) (l ++ [t])
      | none => ([], some i)
theorem tokRes_cases {s : List Nat} {i c : Nat} (hc : s[i]? = some c) :
    (∃ (x1 : Int) (x2 : List Nat) (x3 x4 : Int) (n : Nat), tokRes s i = .tup [.agg [.int .i64 x1, .str x2, .int .i64 x3, .int .i64 x4], .int .i64 ↑n, .bool true] ∧ 0 < n ∧ i + n ≤ s.length ∧ tokAt s i = some (.agg [.int .i64 x1, .str x2, .int .i64 x3, .int .i64 x4], n)) ∨
    (∃ (x1 : Int) (x2 : List Nat) (x3 x4 n : Int), tokRes s i = .tup [.agg [.int .i64 x1, .str x2, .int .i64 x3, .int .i64 x4], .int .i64 n, .bool false] ∧ tokAt s i = none) := by
  have ht : isTok (tokRes s i) := by
    unfold tokRes
    rw [hc]
    simp only
    cases pLetter ↑c with
    | true => exact nameRes_tok s i
    | false =>
      cases pDigit ↑c with
      | true => exact numRes_tok s i
      | false =>
        cases intBeq ↑c 34 with
        | true => exact textRes_tok s i
        | false => exact signRes_tok s i
  obtain ⟨x1, x2, x3, x4, n, b, e⟩ := ht
  cases b with
  | true =>
    obtain ⟨m, rfl, h1, h2⟩ := tok_len hc e
    exact .inl ⟨x1, x2, x3, x4, m, e, h1, h2, by unfold tokAt; rw [e]⟩
  | false => exact .inr ⟨x1, x2, x3, x4, n, e, by unfold tokAt; rw [e]; cases n <;> rfl⟩

/-! ### The program's loop -/
def Good (l : List AV) : Prop := ∀ t ∈ l, tokish t
theorem good_sizes : ∀ {l : List AV}, Good l → sizesAre 4 l = true
  | [], _ => rfl
  | t :: l, h => by
    obtain ⟨x1, x2, x3, x4, rfl⟩ := h t (List.mem_cons_self ..)
    simp [sizesAre, AV.cells, good_sizes (fun t ht => h t (List.mem_cons_of_mem _ ht)), beq_dec]
theorem good_add {l : List AV} (h : Good l) {t : AV} (ht : tokish t) : Good (l ++ [t]) := by
  intro u hu
  rcases List.mem_append.1 hu with hu | hu
  · exact h u hu
  · rw [List.mem_singleton.1 hu]; exact ht
theorem lp_n {E : Env} {f n : Nat} {b : Code} {tm tm' : Tm} {h h' : H} (hb : cdL E f n b tm h = some (.normal, tm', h')) : cdL E f n (.loop b) tm h = cdL E f n (.loop b) tm' h' := by
  rw [cdL_loop, hb]
theorem lp_e {E : Env} {f n j : Nat} {b : Code} {tm tm' : Tm} {h h' : H} (hb : cdL E f n b tm h = some (.exit j, tm', h')) : cdL E f n (.loop b) tm h = some (.exit j, tm', h') := by
  rw [cdL_loop, hb]
theorem lp_r {E : Env} {f n : Nat} {b : Code} {tm tm' : Tm} {h h' : H} (hb : cdL E f n b tm h = some (.ret, tm', h')) : cdL E f n (.loop b) tm h = some (.ret, tm', h') := by
  rw [cdL_loop, hb]
theorem loop8 {s : List Nat} (hl : s.length ≤ 100000) : ∀ (f i : Nat) (o : Own) (l : List AV) {tm : Tm} {h : H}, s.length - i < f → i ≤ s.length → R8 s i o l tm → Row h o l → l.length ≤ i → Good l →
    match lx f s i l with
    | (l', none) => ∃ tm' h' o', cdL env7 136 56 (.loop b8) tm h = some (.exit 0, tm', h') ∧ R8 s s.length o' l' tm' ∧ Row h' o' l' ∧ l'.length ≤ s.length ∧ Good l'
    | (l', some j) => ∃ tm' h', cdL env7 136 56 (.loop b8) tm h = some (.ret, tm', h') ∧ tm'.get 2 = some (.sl .full []) ∧ tm'.get 3 = some (.int .i64 ↑j) ∧ tm'.get 4 = some (.int .i64 2)
  | 0, i, o, l, tm, h, hf, _, _, _, _, _ => by omega
  | f + 1, i, o, l, tm, h, hf, hi, R, hr, hli, hg => by
    simp only [lx]
    cases hc : s[i]? with
    | none =>
      have hle : s.length ≤ i := List.getElem?_eq_none_iff.1 hc
      have : i = s.length := by omega
      subst this
      obtain ⟨tm', h1, h2⟩ := stop8 (evFn env7 1) s s.length o l tm h 0 R (Nat.le_refl _)
      exact ⟨tm', h, o, lp_e (cd_of h1), h2, hr, hli, hg⟩
    | some c =>
      have hlt := getElem?_lt hc
      simp only
      cases hb : isBlank c with
      | true =>
        obtain ⟨tm1, h1, h2⟩ := blank8 (evFn env7 1) s i o l tm h 0 c R (by omega) hc hb
        have := loop8 hl f (i + 1) o l (by omega) hlt h2 hr (by omega) hg
        rw [lp_n (cd_of h1)]
        exact this
      | false =>
        rcases tokRes_cases hc with ⟨x1, x2, x3, x4, n, e, hn, hin, ht⟩ | ⟨x1, x2, x3, x4, n, e, ht⟩
        · rw [ht]
          obtain ⟨tm1, h1, o1, hq, h2, h3⟩ := tok8 0 s i o l tm h 0 c R (by omega) hc hb x1 x2 x3 x4 n e hin hr (by omega) (good_sizes hg)
          have := loop8 hl f (i + n) o1 _ (by omega) hin h2 h3 (by simp; omega) (good_add hg ⟨x1, x2, x3, x4, rfl⟩)
          rw [lp_n (cd_of hq)]
          exact this
        · rw [ht]
          obtain ⟨tm1, h1, hq, g2, g3, g4⟩ := err8 0 s i o l tm h 0 c R (by omega) hc hb x1 x2 x3 x4 n e
          exact ⟨tm1, h1, lp_r (cd_of hq), g2, g3, g4⟩
def endTok (s : List Nat) : AV := tokA 5 [] 0 ↑s.length
def toks (s : List Nat) : AV := bif ltI 2000 ↑s.length then .tup [.sl .full [], .int .i64 0, .int .i64 7] else match lx (s.length + 1) s 0 [] with
  | (l, none) => .tup [.sl .no (l ++ [endTok s]), .int .i64 ↑s.length, .int .i64 0]
  | (_, some j) => .tup [.sl .full [], .int .i64 ↑j, .int .i64 2]
theorem good_pure : ∀ {l : List AV}, Good l → AV.pures l = true ∧ AV.forgets l = l
  | [], _ => ⟨rfl, rfl⟩
  | t :: l, h => by
    obtain ⟨x1, x2, x3, x4, rfl⟩ := h t (List.mem_cons_self ..)
    obtain ⟨h1, h2⟩ := good_pure (l := l) (fun t ht => h t (List.mem_cons_of_mem _ ht))
    exact ⟨by simp [AV.pures, AV.pure, h1], by simp [AV.forgets, AV.forget, h2]⟩
theorem body8 : Tryz.f136.body = some (.seq (codeAt Tryz.f136 [0]) (.seq (codeAt Tryz.f136 [1, 0]) (.seq (.block 0 (.loop b8)) (codeAt Tryz.f136 [1, 1, 1])))) := rfl
theorem lx_good {s : List Nat} : ∀ (f i : Nat) (l l' : List AV), Good l → lx f s i l = (l', none) → Good l'
  | 0, i, l, l', hg, h => by simp only [lx, Prod.mk.injEq] at h; rw [← h.1]; exact hg
  | f + 1, i, l, l', hg, h => by
    simp only [lx] at h
    cases hc : s[i]? with
    | none => rw [hc] at h; simp only [Prod.mk.injEq] at h; rw [← h.1]; exact hg
    | some c =>
      rw [hc] at h
      simp only at h
      cases hb : isBlank c with
      | true => rw [hb] at h; exact lx_good f _ _ _ hg h
      | false =>
        rw [hb] at h
        simp only [cond_false] at h
        rcases tokRes_cases hc with ⟨x1, x2, x3, x4, n, e, hn, hin, ht⟩ | ⟨x1, x2, x3, x4, n, e, ht⟩
        · rw [ht] at h; exact lx_good f _ _ _ (good_add hg ⟨x1, x2, x3, x4, rfl⟩) h
        · rw [ht] at h; simp at h
theorem loop8x {s : List Nat} (hl : s.length ≤ 100000) (f i : Nat) (o : Own) (l : List AV) {tm : Tm} {h : H} {x : Option (Ex × Tm × H)} (hx : cdL env7 136 56 (.loop b8) tm h = x) (hf : s.length - i < f) (hi : i ≤ s.length) (R : R8 s i o l tm) (hr : Row h o l) (hli : l.length ≤ i) (hg : Good l) :
    match lx f s i l with
    | (l', none) => ∃ tm' h' o', x = some (.exit 0, tm', h') ∧ R8 s s.length o' l' tm' ∧ Row h' o' l' ∧ l'.length ≤ s.length ∧ Good l'
    | (l', some j) => ∃ tm' h', x = some (.ret, tm', h') ∧ tm'.get 2 = some (.sl .full []) ∧ tm'.get 3 = some (.int .i64 ↑j) ∧ tm'.get 4 = some (.int .i64 2) := by
  subst hx
  exact loop8 hl f i o l hf hi R hr hli hg
theorem pures_append : ∀ (a b : List AV), AV.pures (a ++ b) = (AV.pures a && AV.pures b)
  | [], b => by simp [AV.pures]
  | x :: a, b => by simp [AV.pures, pures_append a b, Bool.and_assoc]
theorem toks_run (s : List Nat) : ∃ v' h1, evL env7 136 [.str s] ⟨.e, 0⟩ = some (v', h1) ∧ v'.pure = true ∧ v'.forget = toks s := by
  rw [evL_fn env7 (by kernel_rfl) (by kernel_rfl) body8 _ _ rfl]
  simp only [codeAt, sub, Tryz.f136]
  unfold toks
  cases hb : ltI 2000 ↑s.length with
  | true =>
    simp [EVT, endL, evSeq, evOne, evAct, evOp, opKind, evPure, evRead, evNew, evWrite, evSlice, natOf, optVal, readAt, AV.cells, wantedA, putTm, val, allVals, evBin, evInt, evStr, evAppend, evMin, nilCmp, denseFrom, sizesAre, onesIn, evPlan, recheck, H.new, H.put, fillF, fillAt, allOne, AV.one, setArgs, evRes, resOf, ofVal, ofVal0, isShift, ikBeq, TYC, e7ty, e7pl, hb]
    exact ⟨rfl, rfl⟩
  | false =>
    have hle : s.length ≤ 2000 := by rw [show (2000 : Int) = ((2000 : Nat) : Int) from rfl, ltI_nat] at hb; simpa using hb
    simp [EVT, endL, evSeq, evOne, evAct, evOp, opKind, evPure, evRead, evNew, evWrite, evSlice, natOf, optVal, readAt, AV.cells, wantedA, putTm, val, allVals, evBin, evInt, evStr, evAppend, evMin, nilCmp, denseFrom, sizesAre, onesIn, evPlan, recheck, H.new, H.put, fillF, fillAt, allOne, AV.one, setArgs, evRes, resOf, ofVal, ofVal0, isShift, ikBeq, TYC, e7ty, e7pl, hb]
    generalize hx : cdL env7 136 56 (.loop b8) _ _ = x
    have L := loop8x (s := s) (by omega) (s.length + 1) 0 .full [] hx (by omega) (Nat.zero_le _) ⟨by simp [T.get_set_ite], by simp [T.get_set_ite], by simp [T.get_set_ite]⟩ (.inl ⟨rfl, rfl⟩) (Nat.zero_le _) (fun t ht => by simp at ht)
    rcases hq : lx (s.length + 1) s 0 [] with ⟨l', _ | j⟩
    · rw [hq] at L
      obtain ⟨tm', h', o', rfl, ⟨g0, g2, g3⟩, hr, hll, hg⟩ := L
      have hgp := good_pure hg
      have hsz := good_sizes hg
      have hby : (l'.length + 1) * 40 ≤ 140737488355328 := by omega
      rcases hr with ⟨rfl, rfl⟩ | ⟨id, rfl, hch, hid⟩
      · simp [EVT, endL, evSeq, evOne, evAct, evOp, opKind, evPure, evRead, evNew, evWrite, evSlice, natOf, optVal, readAt, AV.cells, wantedA, putTm, val, allVals, evBin, evInt, evStr, evAppend, evMin, nilCmp, denseFrom, sizesAre, onesIn, evPlan, recheck, H.new, H.put, fillF, fillAt, allOne, AV.one, setArgs, evRes, resOf, ofVal, ofVal0, isShift, ikBeq, TYC, e7ty, e7pl, g0, g2, g3]
        exact ⟨rfl, rfl⟩
      · simp [EVT, endL, evSeq, evOne, evAct, evOp, opKind, evPure, evRead, evNew, evWrite, evSlice, natOf, optVal, readAt, AV.cells, wantedA, putTm, val, allVals, evBin, evInt, evStr, evAppend, evMin, nilCmp, denseFrom, sizesAre, onesIn, evPlan, recheck, H.new, H.put, fillF, fillAt, allOne, AV.one, setArgs, evRes, resOf, ofVal, ofVal0, isShift, ikBeq, TYC, e7ty, e7pl, g0, g2, g3, hch, hsz, hby]
        have e1 : ∀ (a : List AV), AV.pures (l' ++ a) = AV.pures a := fun a => by rw [pures_append, hgp.1, Bool.true_and]
        have e2 : ∀ (a : List AV), AV.forgets (l' ++ a) = l' ++ AV.forgets a := fun a => by rw [forgets_map, List.map_append, ← forgets_map, ← forgets_map, hgp.2]
        simp [AV.pure, AV.pures, AV.forget, AV.forgets, e1, e2, endTok, tokA]
    · rw [hq] at L
      obtain ⟨tm', h', rfl, g2, g3, g4⟩ := L
      simp [EVT, endL, evSeq, evOne, evAct, evOp, opKind, evPure, evRead, evNew, evWrite, evSlice, natOf, optVal, readAt, AV.cells, wantedA, putTm, val, allVals, evBin, evInt, evStr, evAppend, evMin, nilCmp, denseFrom, sizesAre, onesIn, evPlan, recheck, H.new, H.put, fillF, fillAt, allOne, AV.one, setArgs, evRes, resOf, ofVal, ofVal0, isShift, ikBeq, TYC, e7ty, e7pl, g2, g3, g4]
      exact ⟨rfl, rfl⟩
end Go.Proofs.YtncccgglillmoaaGreatDoor.Lx
/- A token by the program is a token by the reference. -/
namespace Go.Proofs.YtncccgglillmoaaGreatDoor.Lx
open Go.Ev Go.Proofs.YtncccgglillmoaaGreatDoor.Env

theorem cnt_take (q : Int → Bool) : ∀ l : List Nat, (l.take (cnt q l)).all (fun c => q ↑c) = true
  | [] => rfl
  | c :: l => by
    cases hq : q ↑c with
    | false => simp [cnt, hq]
    | true => simp [cnt, hq]; simpa using cnt_take q l
theorem cnt_at {q : Int → Bool} : ∀ {l : List Nat} {c : Nat}, l[cnt q l]? = some c → q ↑c = false
  | [], c, h => by simp [cnt] at h
  | a :: l, c, h => by
    cases hq : q ↑a with
    | false => simp [cnt, hq] at h; rw [← h]; exact hq
    | true => simp [cnt, hq] at h; exact cnt_at h
theorem cnt_is {q : Int → Bool} : ∀ {l : List Nat} {m c : Nat}, (l.take m).all (fun c => q ↑c) = true → l[m]? = some c → q ↑c = false → cnt q l = m
  | [], m, c, _, h, _ => by simp at h
  | a :: l, 0, c, _, h, hc => by simp at h; subst h; simp [cnt, hc]
  | a :: l, m + 1, c, h1, h, hc => by
    simp at h1 h
    have := cnt_is (l := l) (m := m) (by simpa using h1.2) h hc
    simp [cnt, h1.1, this]
theorem natsBeq_iff {a b : List Nat} : natsBeq a b = true ↔ a = b := by
  constructor
  · induction a generalizing b with
    | nil => cases b <;> simp [natsBeq]
    | cons x a ih =>
      cases b with
      | nil => simp [natsBeq]
      | cons y b =>
        simp only [natsBeq, Bool.and_eq_true]
        rintro ⟨h1, h2⟩
        rw [Nat.eq_of_beq_eq_true h1, ih h2]
  · rintro rfl; exact natsBeq_refl a
theorem idxF_neg {v : List Nat} : ∀ {l : List (List Nat)} (i : Nat), ltI (idxF v l i) 0 = !(l.any (natsBeq · v))
  | [], i => by simp [idxF]; rfl
  | w :: l, i => by
    have hsym : natsBeq v w = natsBeq w v := by
      cases h : natsBeq w v with
      | true => rw [natsBeq_iff.1 h]; exact natsBeq_refl v
      | false =>
        cases h2 : natsBeq v w with
        | false => rfl
        | true => rw [natsBeq_iff.1 h2, natsBeq_refl] at h; simp at h
    simp only [idxF, List.any_cons]
    cases h : natsBeq v w with
    | true =>
      rw [hsym] at h
      simp [h]
      exact ltI_f (a := i) (b := 0) (Nat.zero_le _)
    | false =>
      rw [hsym] at h
      simp only [cond_false, h, Bool.false_or]
      exact idxF_neg (i + 1)
theorem hasF_isW (v : List Nat) : hasF v wordsL = isW v := by simp [hasF, idxF_neg, isW]
theorem isW_len {v : List Nat} (h : isW v = true) : v.length ≤ 12 := by
  obtain ⟨w, hw, hb⟩ := List.any_eq_true.1 h
  rw [← natsBeq_iff.1 hb]
  have : ∀ w ∈ wordsL, w.length ≤ 12 := by decide
  exact this w hw
end Go.Proofs.YtncccgglillmoaaGreatDoor.Lx
/- The reference's Name. -/
namespace Go.Proofs.YtncccgglillmoaaGreatDoor.Lx
open Go.Ev Go.Proofs.YtncccgglillmoaaGreatDoor.Env

def isTk (v : AV) : Prop := ∃ (x1 : Int) (x2 : List Nat) (x3 x4 n : Int), v = .tup [.agg [.int .i64 x1, .str x2, .int .i64 x3, .int .i64 x4], .int .i64 n]
theorem rname_tk (s : List Nat) : isTk (rname s) := by
  unfold rname
  simp only
  generalize 1 + cnt pMore (s.drop 1) = n
  cases isW (s.take n) <;> cases ltI 12 ↑n <;> exact ⟨_, _, _, _, _, rfl⟩
theorem isTk_pure {v : AV} (h : isTk v) : v.pure = true ∧ v.forget = v := by
  obtain ⟨x1, x2, x3, x4, n, rfl⟩ := h
  exact ⟨rfl, rfl⟩
def lenPos (s : List Nat) : Bool := lenOk s && Nat.blt 0 s.length
theorem lenPos_iff {s : List Nat} : lenPos s = true ↔ s.length < 140737488355328 ∧ 0 < s.length := by simp [lenPos, lenOk, blt_dec]
theorem p58_ok : PrimOk Tryz.prog 79 (primPure (pS lenPos rname)) := pS_ok env8_ok Tryz.func79 (by kernel_rfl) (by kernel_rfl) fun s hs => ⟨rname_run s (lenPos_iff.1 hs).1 (lenPos_iff.1 hs).2, (isTk_pure (rname_tk s)).1, (isTk_pure (rname_tk s)).2⟩
noncomputable def env9 : Env := addPrim env8 79 (primPure (pS lenPos rname))
theorem env9_ok : EnvOk Tryz.prog env9 := addPrim_ok env8_ok p58_ok
/-- Is it one whole name? -/
def nameF (s : List Nat) : Bool := match s with
  | [] => false
  | c :: l => pLetter ↑c && (!isW ((c :: l).take (1 + cnt pMore l)) && (!ltI 12 ↑(1 + cnt pMore l) && intBeq ↑(1 + cnt pMore l) ↑(c :: l).length))
theorem intBeq_iff' {a b : Int} : intBeq a b = true ↔ a = b := by cases a <;> cases b <;> simp [intBeq] <;> omega
theorem body42 : Tryz.f140.body = some (codeAt Tryz.f140 []) := rfl
theorem name42_run (s : List Nat) (hs : lenOk s = true) : ∃ h1, evL env9 140 [.str s] ⟨.e, 0⟩ = some (.bool (nameF s), h1) := by
  have hty : env9.ty = env.ty := rfl
  have hpl : env9.plan = env.plan := rfl
  rw [evL_fn env9 (by kernel_rfl) (by kernel_rfl) body42 _ _ rfl]
  cases s with
  | nil =>
    simp only [codeAt, sub, Tryz.f140]
    simp [EVT, endL, evSeq, evOne, evAct, evOp, opKind, evPure, evRead, evNew, evWrite, evSlice, natOf, optVal, readAt, AV.cells, wantedA, putTm, val, allVals, evBin, evInt, evStr, evAppend, evMin, nilCmp, denseFrom, sizesAre, onesIn, evPlan, recheck, H.new, H.put, fillF, fillAt, allOne, AV.one, setArgs, evRes, resOf, ofVal, ofVal0, isShift, ikBeq, TYC, hty, hpl, nameF, intBeq]
  | cons c l =>
    have k57 : ∀ c h, evL env9 78 [.int .u8 c] h = some (.bool (pLetter c), h) := fun c h => by
      rw [evL_prim env9 (f := 78) (p := primPure (pI pLetter)) (by kernel_rfl)]; rfl
    have k58 : ∀ h, evL env9 79 [.str (c :: l)] h = some (rname (c :: l), h) := fun h => pS_call (r := rname) (by kernel_rfl) h _ (lenPos_iff.2 ⟨lenOk_iff.1 hs, by simp⟩)
    have hz : intBeq (↑(l.length + 1) : Int) 0 = false := by cases hb : intBeq (↑(l.length + 1) : Int) 0 with | false => rfl | true => rw [intBeq_iff'] at hb; omega
    have i41 : intBeq 4 1 = false := rfl
    have i11 : intBeq 1 1 = true := rfl
    have i01 : intBeq 0 1 = false := rfl
    have hz' : intBeq (↑l.length + 1 : Int) 0 = false := by simpa using hz
    simp only [nameF]
    unfold rname at k58
    simp only [List.drop_succ_cons, List.drop_zero] at k58
    have hcl : cnt pMore l ≤ l.length := cnt_le pMore l
    generalize 1 + cnt pMore l = n at *
    have hnl : intBeq (0 : Int) (↑l.length + 1) = false := by cases hb : intBeq (0 : Int) (↑l.length + 1) with | false => rfl | true => rw [intBeq_iff'] at hb; omega
    cases h1 : pLetter ↑c with
    | false =>
      simp only [codeAt, sub, Tryz.f140]
      simp [EVT, endL, evSeq, evOne, evAct, evOp, opKind, evPure, evRead, evNew, evWrite, evSlice, natOf, optVal, readAt, AV.cells, wantedA, putTm, val, allVals, evBin, evInt, evStr, evAppend, evMin, nilCmp, denseFrom, sizesAre, onesIn, evPlan, recheck, H.new, H.put, fillF, fillAt, allOne, AV.one, setArgs, evRes, resOf, ofVal, ofVal0, isShift, ikBeq, TYC, hty, hpl, hz', k57, h1]
    | true =>
      cases h2 : isW ((c :: l).take n) with
      | true =>
        rw [h2] at k58
        simp only [cond_true, tokA] at k58
        simp only [codeAt, sub, Tryz.f140]
        cases h4 : intBeq (↑n : Int) (↑l.length + 1) <;> simp [EVT, endL, evSeq, evOne, evAct, evOp, opKind, evPure, evRead, evNew, evWrite, evSlice, natOf, optVal, readAt, AV.cells, wantedA, putTm, val, allVals, evBin, evInt, evStr, evAppend, evMin, nilCmp, denseFrom, sizesAre, onesIn, evPlan, recheck, H.new, H.put, fillF, fillAt, allOne, AV.one, setArgs, evRes, resOf, ofVal, ofVal0, isShift, ikBeq, TYC, hty, hpl, k57, k58, h1, h4, i41, i11, i01, hz']
      | false =>
        rw [h2] at k58
        cases h3 : ltI 12 ↑n with
        | true =>
          rw [h3] at k58
          simp only [cond_true, cond_false, tokA] at k58
          simp only [codeAt, sub, Tryz.f140]
          simp [EVT, endL, evSeq, evOne, evAct, evOp, opKind, evPure, evRead, evNew, evWrite, evSlice, natOf, optVal, readAt, AV.cells, wantedA, putTm, val, allVals, evBin, evInt, evStr, evAppend, evMin, nilCmp, denseFrom, sizesAre, onesIn, evPlan, recheck, H.new, H.put, fillF, fillAt, allOne, AV.one, setArgs, evRes, resOf, ofVal, ofVal0, isShift, ikBeq, TYC, hty, hpl, k57, k58, h1, hnl, i01, hz']
        | false =>
          rw [h3] at k58
          simp only [cond_false, tokA] at k58
          simp only [codeAt, sub, Tryz.f140]
          cases h4 : intBeq (↑n : Int) (↑l.length + 1) <;> simp [EVT, endL, evSeq, evOne, evAct, evOp, opKind, evPure, evRead, evNew, evWrite, evSlice, natOf, optVal, readAt, AV.cells, wantedA, putTm, val, allVals, evBin, evInt, evStr, evAppend, evMin, nilCmp, denseFrom, sizesAre, onesIn, evPlan, recheck, H.new, H.put, fillF, fillAt, allOne, AV.one, setArgs, evRes, resOf, ofVal, ofVal0, isShift, ikBeq, TYC, hty, hpl, k57, k58, h1, h4, i41, i11, i01, hz']
theorem p42_ok : PrimOk Tryz.prog 140 (primPure (pS lenOk fun s => .bool (nameF s))) := pS_ok env9_ok Tryz.func140 (by kernel_rfl) (by kernel_rfl) fun s hs => ⟨name42_run s hs, rfl, rfl⟩
end Go.Proofs.YtncccgglillmoaaGreatDoor.Lx
