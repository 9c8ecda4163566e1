/- The tree's isOne and isName, walked. -/
import Derived.Test.YtncccgglillmoaaGreatDoorZTQ
import Derived.Test.YtncccgglillmoaaGreatDoorZTO
set_option autoImplicit false
set_option maxRecDepth 100000
set_option linter.unusedSimpArgs false
set_option linter.unusedVariables false
set_option linter.unusedSectionVars false
set_option maxHeartbeats 2000000
namespace Go.Proofs.YtncccgglillmoaaGreatDoor.Lx
open Go.Ev Go.Proofs.YtncccgglillmoaaGreatDoor.Env

noncomputable abbrev pToks := primPure (pS (fun _ => true) toks)
theorem p59_ok : PrimOk Tryz.prog 136 pToks := by
  refine pureL_ok env7_ok Tryz.func136 (by kernel_rfl) (by kernel_rfl) fun args v hv => ?_
  unfold pS at hv
  split at hv
  · rename_i s
    simp only [cond_true, Option.some.injEq] at hv
    subst hv
    obtain ⟨v', h1, e, h2, h3⟩ := toks_run s
    exact ⟨_, h1, e, h2, h3⟩
  · simp at hv
noncomputable def env10 : Env := addPrim env9 136 pToks
theorem env10_ok : EnvOk Tryz.prog env10 := addPrim_ok env9_ok p59_ok
theorem e10_59 (s : List Nat) (h : H) : evL env10 136 [.str s] h = some (toks s, h) := pS_call (r := toks) (q := fun _ => true) (by kernel_rfl) h s rfl
theorem body44 : Tryz.f120.body = some (codeAt Tryz.f120 []) := rfl
theorem one44_run (s name : List Nat) (k : Int) (hs : s.length < 140737488355328) (hn : name.length < 140737488355328) : ∃ h1, evL env10 120 [.str s, .str name, .int .i64 k] ⟨.e, 0⟩ = some (.bool (oneF s name k), h1) := by
  have hty : env10.ty = env.ty := rfl
  have hpl : env10.plan = env.plan := rfl
  have k59 := e10_59 s
  have hw : wr .i64 (Int.sub ↑s.length ↑name.length) = ↑s.length - ↑name.length := wrI (by show _ ≤ (↑s.length - ↑name.length : Int); omega) (by show (↑s.length - ↑name.length : Int) < _; omega)
  rw [evL_fn env10 (by kernel_rfl) (by kernel_rfl) body44 _ _ rfl]
  unfold oneF
  unfold toks at k59
  have i70 : intBeq 7 0 = false := rfl
  have i20 : intBeq 2 0 = false := rfl
  have i00 : intBeq 0 0 = true := rfl
  have i12 : intBeq 1 2 = false := rfl
  have i22 : intBeq 2 2 = true := rfl
  cases hb : ltI 2000 ↑s.length with
  | true =>
    rw [hb] at k59
    simp only [cond_true] at k59
    simp only [codeAt, sub, Tryz.f120]
    simp [EVT, endL, evSeq, evOne, evAct, evOp, opKind, evPure, evRead, evNew, evWrite, evSlice, natOf, optVal, readAt, AV.cells, wantedA, putTm, val, allVals, evBin, evInt, evStr, evAppend, evMin, nilCmp, denseFrom, sizesAre, onesIn, evPlan, recheck, H.new, H.put, fillF, fillAt, allOne, AV.one, setArgs, evRes, resOf, ofVal, ofVal0, isShift, ikBeq, TYC, hty, hpl, k59, i70]
  | false =>
    rw [hb] at k59
    simp only [cond_false] at k59
    rcases hq : lx (s.length + 1) s 0 [] with ⟨l, _ | j⟩
    · rw [hq] at k59
      have hg := lx_good _ _ _ _ (fun t ht => by simp at ht) hq
      simp only at k59
      match l, hg with
      | [], _ =>
        simp only [codeAt, sub, Tryz.f120]
        simp [EVT, endL, evSeq, evOne, evAct, evOp, opKind, evPure, evRead, evNew, evWrite, evSlice, natOf, optVal, readAt, AV.cells, wantedA, putTm, val, allVals, evBin, evInt, evStr, evAppend, evMin, nilCmp, denseFrom, sizesAre, onesIn, evPlan, recheck, H.new, H.put, fillF, fillAt, allOne, AV.one, setArgs, evRes, resOf, ofVal, ofVal0, isShift, ikBeq, TYC, hty, hpl, k59, oneL, i00, i12]
      | [t], hg =>
        obtain ⟨x1, x2, x3, x4, rfl⟩ := hg t (List.mem_singleton.2 rfl)
        have hee : intBeq (↑s.length : Int) ↑s.length = true := intBeq_iff'.2 rfl
        simp only [endTok, tokA, List.cons_append, List.nil_append] at k59
        simp only [codeAt, sub, Tryz.f120]
        cases h1 : intBeq x1 k <;> cases h2 : natsBeq x2 name <;> cases h3 : intBeq x4 0 <;> cases h4 : ltI 2 (↑s.length - ↑name.length) <;> simp [EVT, endL, evSeq, evOne, evAct, evOp, opKind, evPure, evRead, evNew, evWrite, evSlice, natOf, optVal, readAt, AV.cells, wantedA, putTm, val, allVals, evBin, evInt, evStr, evAppend, evMin, nilCmp, denseFrom, sizesAre, onesIn, evPlan, recheck, H.new, H.put, fillF, fillAt, allOne, AV.one, setArgs, evRes, resOf, ofVal, ofVal0, isShift, ikBeq, TYC, hty, hpl, k59, oneL, tokOne, i00, i22, h1, h2, h3, h4, hee, hw]
      | t :: u :: r, hg =>
        have hlen : intBeq (↑(t :: u :: r ++ [endTok s]).length : Int) 2 = false := beqI_no (by simp; omega)
        have hlen' : intBeq (↑r.length + 1 + 1 + 1 : Int) 2 = false := beqI_no (by omega)
        simp only [codeAt, sub, Tryz.f120]
        simp [EVT, endL, evSeq, evOne, evAct, evOp, opKind, evPure, evRead, evNew, evWrite, evSlice, natOf, optVal, readAt, AV.cells, wantedA, putTm, val, allVals, evBin, evInt, evStr, evAppend, evMin, nilCmp, denseFrom, sizesAre, onesIn, evPlan, recheck, H.new, H.put, fillF, fillAt, allOne, AV.one, setArgs, evRes, resOf, ofVal, ofVal0, isShift, ikBeq, TYC, hty, hpl, k59, oneL, i00, hlen, hlen']
    · rw [hq] at k59
      simp only [codeAt, sub, Tryz.f120]
      have : oneL s name k (l, some j) = false := by cases l with | nil => rfl | cons t l => cases l <;> rfl
      simp [EVT, endL, evSeq, evOne, evAct, evOp, opKind, evPure, evRead, evNew, evWrite, evSlice, natOf, optVal, readAt, AV.cells, wantedA, putTm, val, allVals, evBin, evInt, evStr, evAppend, evMin, nilCmp, denseFrom, sizesAre, onesIn, evPlan, recheck, H.new, H.put, fillF, fillAt, allOne, AV.one, setArgs, evRes, resOf, ofVal, ofVal0, isShift, ikBeq, TYC, hty, hpl, k59, this, i20]
end Go.Proofs.YtncccgglillmoaaGreatDoor.Lx
namespace Go.Proofs.YtncccgglillmoaaGreatDoor.Tr
open Go.Proofs.YtncccgglillmoaaGreatDoor.Env Go.Ev Go.Ev.Nd Go.Proofs.YtncccgglillmoaaGreatDoor.Lx
noncomputable abbrev pOne := primVal (ofRel (Rel3 (fun s n : Str => fun _ : Int => s.s.length < 140737488355328 ∧ n.s.length < 140737488355328) fun s n k => oneF s.s n.s k))
theorem p44_ok : PrimOk Tryz.prog 120 pOne := prim3_ok env10_ok (fn := Tryz.f120) (by kernel_rfl) body44 (by kernel_rfl) fun s n k hq => by
  obtain ⟨h1, e⟩ := one44_run s.s n.s k hq.1 hq.2
  exact ⟨.bool (oneF s.s n.s k), h1, bodyL_of (by kernel_rfl) (by kernel_rfl) body44 rfl e, by simp [AV.wk, Enc.enc]⟩
noncomputable abbrev pIsName := primVal (ofRel (Rel1 (fun s : Str => s.s.length < 140737488355328) fun s => nameF s.s))
noncomputable abbrev e44 : Env := addPrim env 120 pOne
theorem p45_ok : PrimOk Tryz.prog 121 pIsName := prim1_ok (addPrim_ok env_ok p44_ok) (fn := Tryz.f121) (by kernel_rfl) rfl (by kernel_rfl) fun s hs => by
  have k44 : ∀ h, evL e44 120 [.str s.s, .str s.s, .int .i64 1] h = some (.bool (oneF s.s s.s 1), h) := fun h =>
    prim3_call (a := s) (b := s) (c := (1 : Int)) (F := fun s n : Str => fun k => oneF s.s n.s k) (q := fun s n : Str => fun _ : Int => s.s.length < 140737488355328 ∧ n.s.length < 140737488355328) (by kernel_rfl) (Enc.bare 0 s) (Enc.bare 0 s) (Enc.bare 0 (1 : Int)) ⟨hs, hs⟩ h
  have hty : e44.ty = env.ty := rfl
  have hpl : e44.plan = env.plan := rfl
  rw [show (Enc.enc s : AV) = .str s.s from rfl, ← one_name]
  unfold bodyL
  simp only [codeAt, sub, Tryz.f121]
  simp [EVT, endL, evSeq, evOne, evAct, evOp, opKind, evPure, evRead, evNew, evWrite, evSlice, natOf, optVal, readAt, AV.cells, wantedA, putTm, val, allVals, evBin, evInt, evStr, evAppend, evMin, nilCmp, denseFrom, sizesAre, onesIn, evPlan, recheck, H.new, H.put, fillF, fillAt, allOne, AV.one, setArgs, evRes, resOf, ofVal, ofVal0, isShift, ikBeq, TYC, hty, hpl, k44, AV.wk, Enc.enc]
end Go.Proofs.YtncccgglillmoaaGreatDoor.Tr
/- The tree's names of a node and a shape. -/
set_option maxHeartbeats 2000000
namespace Go.Proofs.YtncccgglillmoaaGreatDoor.Tr
open Go.Proofs.YtncccgglillmoaaGreatDoor.Env Go.Ev Go.Ev.Nd Go.Proofs.YtncccgglillmoaaGreatDoor.Lx

structure Sha where
  a : Bool
  b : Bool
  l : Int
  k : Int
def Sha.av (s : Sha) : AV := .agg [.bool s.a, .bool s.b, .int .i64 s.l, .int .i64 s.k]
instance : Enc Sha where
  enc := Sha.av
  inj := by
    rintro x ⟨a1, b1, l1, k1⟩ ⟨a2, b2, l2, k2⟩ h1 h2
    simp only [Sha.av] at h1 h2
    cases x with
    | ptr p => cases p <;> simp [AV.wk] at h1
    | map p => cases p <;> simp [AV.wk] at h1
    | agg cs =>
      rw [wk_agg] at h1 h2
      match cs, h1, h2 with
      | [c0, c1, c2, c3], h1, h2 =>
        simp only [wks_cons] at h1 h2
        obtain ⟨x1, x2, x3, x4, _⟩ := h1
        obtain ⟨y1, y2, y3, y4, _⟩ := h2
        have e1 : a1 = a2 := Enc.inj (α := Bool) x1 y1
        have e2 : b1 = b2 := Enc.inj (α := Bool) x2 y2
        have e3 : l1 = l2 := Enc.inj (α := Int) x3 y3
        have e4 : k1 = k2 := Enc.inj (α := Int) x4 y4
        rw [e1, e2, e3, e4]
      | [], h1, _ => exact absurd (wks_iff.1 h1).1 (by simp)
      | [_], h1, _ => exact absurd (wks_iff.1 h1).1 (by simp)
      | [_, _], h1, _ => exact absurd (wks_iff.1 h1).1 (by simp)
      | [_, _, _], h1, _ => exact absurd (wks_iff.1 h1).1 (by simp)
      | _ :: _ :: _ :: _ :: _ :: _, h1, _ => exact absurd (wks_iff.1 h1).1 (by simp)
    | _ => simp [AV.wk] at h1
  bare := fun n s => by
    show (Sha.av s).wk n (Sha.av s)
    unfold Sha.av
    rw [wk_agg]
    simp [wks_cons, AV.wk, wks_nil]
def namT (o p q : List Nat) (a b : Bool) : Bool :=
  bif natsBeq o strS then natsBeq q [] && okT p
  else bif (bif a then !nameF p else !natsBeq p []) then false
  else bif b then nameF q else natsBeq q []
noncomputable abbrev pNamesT := primVal (ofRel (Rel2 (fun (t : Nd) (_ : Sha) => fit t) fun t s => namT t.op t.name t.arg s.a s.b))
noncomputable abbrev e4445 : Env := addPrim e44 121 pIsName
theorem e4445_ok : EnvOk Tryz.prog e4445 := addPrim_ok (addPrim_ok env_ok p44_ok) p45_ok
theorem body34 : Tryz.f96.body = some (codeAt Tryz.f96 []) := rfl
theorem p34_ok : PrimOk Tryz.prog 96 pNamesT := prim2_ok e4445_ok (fn := Tryz.f96) (by kernel_rfl) body34 (by kernel_rfl) fun t s hf => by
  obtain ⟨o, p, q, n, a, ks⟩ := t
  obtain ⟨sa, sb, sl, sk⟩ := s
  simp only [fit] at hf
  have k45p : ∀ h, evL e4445 121 [.str p] h = some (.bool (nameF p), h) := fun h => prim1_call (a := (⟨p⟩ : Str)) (F := fun s : Str => nameF s.s) (q := fun s : Str => s.s.length < 140737488355328) (by kernel_rfl) (Enc.bare 0 (⟨p⟩ : Str)) (by have := hf.2.1.1; show p.length < _; omega) h
  have k45q : ∀ h, evL e4445 121 [.str q] h = some (.bool (nameF q), h) := fun h => prim1_call (a := (⟨q⟩ : Str)) (F := fun s : Str => nameF s.s) (q := fun s : Str => s.s.length < 140737488355328) (by kernel_rfl) (Enc.bare 0 (⟨q⟩ : Str)) (by have := hf.2.2.1.1; show q.length < _; omega) h
  have k44 : ∀ h, evL e4445 120 [.str (34 :: (p ++ [34])), .str p, .int .i64 3] h = some (.bool (okT p), h) := fun h => by
    rw [← one_text]
    exact prim3_call (a := (⟨34 :: (p ++ [34])⟩ : Str)) (b := (⟨p⟩ : Str)) (c := (3 : Int)) (F := fun s n : Str => fun k => oneF s.s n.s k) (q := fun s n : Str => fun _ : Int => s.s.length < 140737488355328 ∧ n.s.length < 140737488355328) (by kernel_rfl) (Enc.bare 0 _) (Enc.bare 0 _) (Enc.bare 0 (3 : Int)) (by have := hf.2.1.1; simp; omega) h
  have hle1 : 1 + p.length ≤ 140737488355328 := by have := hf.2.1.1; omega
  have hle2 : p.length + 1 + 1 ≤ 140737488355328 := by have := hf.2.1.1; omega
  have hty : e4445.ty = env.ty := rfl
  have hpl : e4445.plan = env.plan := rfl
  show ∃ v' h1, bodyL e4445 96 Tryz.f96 (codeAt Tryz.f96 []) [(Nd.mk o p q n a ks).av, (Sha.mk sa sb sl sk).av] ⟨.e, 0⟩ = some (v', h1) ∧ v'.wk 0 (.bool (namT o p q sa sb))
  unfold bodyL namT
  simp only [codeAt, sub, Tryz.f96, Nd.av, Sha.av]
  generalize nameF p = np at *
  generalize nameF q = nq at *
  generalize okT p = tp at *
  generalize hp0 : natsBeq p [] = p0 at *
  generalize hq0 : natsBeq q [] = q0 at *
  simp only [strS]
  cases ho : natsBeq o [115, 116, 114] with
  | true => cases q0 <;> simp [EVT, endL, evSeq, evOne, evAct, evOp, opKind, evPure, evRead, evNew, evWrite, evSlice, natOf, optVal, readAt, AV.cells, wantedA, putTm, val, allVals, evBin, evInt, evStr, evAppend, evMin, nilCmp, denseFrom, sizesAre, onesIn, evPlan, recheck, H.new, H.put, fillF, fillAt, allOne, AV.one, setArgs, evRes, resOf, ofVal, ofVal0, isShift, ikBeq, TYC, hty, hpl, bytesOf, k45p, k45q, k44, hp0, hq0, ho, hle1, hle2, AV.wk]
  | false =>
    cases sa with
    | true => cases np <;> cases sb <;> simp [EVT, endL, evSeq, evOne, evAct, evOp, opKind, evPure, evRead, evNew, evWrite, evSlice, natOf, optVal, readAt, AV.cells, wantedA, putTm, val, allVals, evBin, evInt, evStr, evAppend, evMin, nilCmp, denseFrom, sizesAre, onesIn, evPlan, recheck, H.new, H.put, fillF, fillAt, allOne, AV.one, setArgs, evRes, resOf, ofVal, ofVal0, isShift, ikBeq, TYC, hty, hpl, bytesOf, k45p, k45q, k44, hp0, hq0, ho, AV.wk]
    | false => cases p0 <;> cases sb <;> simp [EVT, endL, evSeq, evOne, evAct, evOp, opKind, evPure, evRead, evNew, evWrite, evSlice, natOf, optVal, readAt, AV.cells, wantedA, putTm, val, allVals, evBin, evInt, evStr, evAppend, evMin, nilCmp, denseFrom, sizesAre, onesIn, evPlan, recheck, H.new, H.put, fillF, fillAt, allOne, AV.one, setArgs, evRes, resOf, ofVal, ofVal0, isShift, ikBeq, TYC, hty, hpl, bytesOf, k45p, k45q, k44, hp0, hq0, ho, AV.wk]
end Go.Proofs.YtncccgglillmoaaGreatDoor.Tr
/- The program's size. -/
namespace Go.Proofs.YtncccgglillmoaaGreatDoor.Tr
open Go.Proofs.YtncccgglillmoaaGreatDoor.Env Go.Ev Go.Ev.Nd

noncomputable def b25_0 : Code := loopOf Tryz.f95 0
theorem body25 : Tryz.f95.body = some (.seq (codeAt Tryz.f95 [0]) (.seq (codeAt Tryz.f95 [1, 0]) (.seq (.seq (codeAt Tryz.f95 [1, 1, 0, 0]) (.block 0 (.loop b25_0))) (codeAt Tryz.f95 [1, 1, 1])))) := rfl
theorem loop25 {E : Env} (hty : E.ty = env.ty) (hpl : E.plan = env.plan) {ks : List Nd} {m : Int} {d : Nat} (hm : 0 ≤ m ∧ m ≤ 4000) (hl : ks.length ≤ 9223372036854775807) (hf : fits ks) (hd : deps ks ≤ d)
    (hc : ∀ t m h, dep t ≤ d → fit t → 0 ≤ m ∧ m ≤ 4000 → evL E 95 [t.av, .int .i64 m] h = some (.int .i64 (szF t m), h)) :
    ∀ (l : List Nd) (i : Nat) (k : Int) {tm : Tm} {h : H} {x : Option (Ex × Tm × H)}, cdL E 95 27 (.loop b25_0) tm h = x → l = ks.drop i → i ≤ ks.length → 1 ≤ k → (k ≤ m ∨ k = 1) →
    tm.get 1 = some (.int .i64 m) → tm.get 5 = some (.int .i64 k) → tm.get 9 = some (.sl .no (avs ks)) → tm.get 10 = some (.int .i64 ↑ks.length) → tm.get 11 = some (.int .i64 ↑i) →
    ∃ tm' h', x = some (.exit 0, tm', h') ∧ tm'.get 5 = some (.int .i64 (szL l m k))
  | [], i, k, tm, h, x, hx, hd, hi, hk, hk2, h1, h5, h9, h10, h11 => by
    have hlen := dnil hd hi
    obtain ⟨R, hR, hx⟩ := loop_step hx
    simp [b25_0, loopOf, Tryz.f95, loops, EVT, endL, evSeq, evOne, evAct, evOp, opKind, evPure, evRead, evNew, evWrite, evSlice, natOf, optVal, readAt, AV.cells, wantedA, putTm, val, allVals, evBin, evInt, evStr, evAppend, evMin, nilCmp, denseFrom, sizesAre, onesIn, evPlan, recheck, H.new, H.put, fillF, fillAt, allOne, AV.one, setArgs, evRes, resOf, ofVal, ofVal0, isShift, ikBeq, TYC, lp, hty, hpl, h1, h5, h9, h10, h11, hlen, ltI_f] at hx
    exact ⟨_, _, by rw [← hx], by simp [T.get_set_ite, h5, szL]⟩
  | t :: l, i, k, tm, h, x, hx, hdr, hi, hk, hk2, h1, h5, h9, h10, h11 => by
    obtain ⟨hlt, hct, hd'⟩ := dcons hdr
    have hat := avs_get hct
    have htm := List.mem_of_getElem? hct
    obtain ⟨R, hR, hx⟩ := loop_step hx
    have hlt' := ltI_t hlt
    have hw := wr_succ (i := i) (by omega)
    have hcall := fun (hkm : k < m) h => hc t (m - k) h (Nat.le_trans (dep_mem htm) hd) (fits_mem.1 hf t htm) (by omega)
    obtain ⟨a0, a1, a2, a3, a4, a5, ha⟩ := nd_cells t
    rw [ha] at hat hcall
    cases hb : ltI k m with
    | false =>
      simp [b25_0, loopOf, Tryz.f95, loops, EVT, endL, evSeq, evOne, evAct, evOp, opKind, evPure, evRead, evNew, evWrite, evSlice, natOf, optVal, readAt, AV.cells, wantedA, putTm, val, allVals, evBin, evInt, evStr, evAppend, evMin, nilCmp, denseFrom, sizesAre, onesIn, evPlan, recheck, H.new, H.put, fillF, fillAt, allOne, AV.one, setArgs, evRes, resOf, ofVal, ofVal0, isShift, ikBeq, TYC, lp, hty, hpl, h1, h5, h9, h10, h11, hlt', hat, hb] at hx
      exact ⟨_, _, by rw [← hx], by simp [T.get_set_ite, h5, szL, hb]⟩
    | true =>
      have hkm : k < m := by rw [ltI_eq] at hb; simpa using hb
      have hcall := hcall hkm
      have hw1 : wr .i64 (Int.sub m k) = m - k := wrI (by show _ ≤ m - k; omega) (by show m - k < _; omega)
      have hsz := szF_le t (m - k)
      have hw2 : wr .i64 (k + szF t (m - k)) = k + szF t (m - k) := wrI (by omega) (by omega)
      simp [b25_0, loopOf, Tryz.f95, loops, EVT, endL, evSeq, evOne, evAct, evOp, opKind, evPure, evRead, evNew, evWrite, evSlice, natOf, optVal, readAt, AV.cells, wantedA, putTm, val, allVals, evBin, evInt, evStr, evAppend, evMin, nilCmp, denseFrom, sizesAre, onesIn, evPlan, recheck, H.new, H.put, fillF, fillAt, allOne, AV.one, setArgs, evRes, resOf, ofVal, ofVal0, isShift, ikBeq, TYC, lp, hty, hpl, h1, h5, h9, h10, h11, hlt', hb, hat, hw1, hcall, hw2, hw] at hx
      rw [hR] at hx
      obtain ⟨tm', h', g0, g1⟩ := loop25 hty hpl hm hl hf hd hc l (i + 1) (k + szF t (m - k)) hx hd' hlt (by omega) (by omega) (by simp [T.get_set_ite, h1]) (by simp [T.get_set_ite]) (by simp [T.get_set_ite, h9]) (by simp [T.get_set_ite, h10]) (by simp [T.get_set_ite])
      exact ⟨tm', h', g0, by rw [g1, szL, hb]; rfl⟩
theorem pd25_ok : ∀ d, PrimOk Tryz.prog 95 (pdSz d) := prim_rec env_ok (prim_none Tryz.func95 (by kernel_rfl) (by kernel_rfl) (prim_empty fun a b h => by have := dep_pos a; have := h.1; omega)) fun d hE => by
  refine prim2_ok hE (fn := Tryz.f95) (by kernel_rfl) body25 (by kernel_rfl) fun t m hq => ?_
  obtain ⟨hdp, hf, hm⟩ := hq
  have hcall : ∀ t m h, dep t ≤ d → fit t → 0 ≤ m ∧ m ≤ 4000 → evL (addPrim env 95 (pdSz d)) 95 [t.av, .int .i64 m] h = some (.int .i64 (szF t m), h) := fun t m h h1 h2 h3 =>
    prim2_call (a := t) (b := m) (F := szF) (q := qsz d) (by kernel_rfl) (Enc.bare 0 t) (Enc.bare 0 m) ⟨h1, h2, h3⟩ h
  have hty : (addPrim env 95 (pdSz d)).ty = env.ty := rfl
  have hpl : (addPrim env 95 (pdSz d)).plan = env.plan := rfl
  generalize addPrim env 95 (pdSz d) = E at *
  obtain ⟨o, p, q, n, a, ks⟩ := t
  simp only [dep] at hdp
  simp only [fit] at hf
  have hkl := avs_len ks
  rw [show (Enc.enc (Nd.mk o p q n a ks) : AV) = (Nd.mk o p q n a ks).av from rfl, show (Enc.enc m : AV) = .int .i64 m from rfl]
  unfold bodyL
  simp only [codeAt, sub, Tryz.f95]
  simp [EVT, endL, evSeq, evOne, evAct, evOp, opKind, evPure, evRead, evNew, evWrite, evSlice, natOf, optVal, readAt, AV.cells, wantedA, putTm, val, allVals, evBin, evInt, evStr, evAppend, evMin, nilCmp, denseFrom, sizesAre, onesIn, evPlan, recheck, H.new, H.put, fillF, fillAt, allOne, AV.one, setArgs, evRes, resOf, ofVal, ofVal0, isShift, ikBeq, TYC, hty, hpl, Nd.av, hkl]
  generalize hx : cdL E 95 27 (.loop b25_0) _ _ = x
  obtain ⟨tm', h', rfl, g5⟩ := loop25 hty hpl (ks := ks) (d := d) hm hf.2.2.2.2.2.1 hf.2.2.2.2.2.2 (by omega) hcall ks 0 1 hx rfl (Nat.zero_le _) (by omega) (.inr rfl) (by simp [T.get_set_ite]) (by simp [T.get_set_ite]) (by simp [T.get_set_ite]) (by simp [T.get_set_ite]) (by simp [T.get_set_ite])
  simp [EVT, endL, evSeq, evOne, evAct, evOp, opKind, evPure, evRead, evNew, evWrite, evSlice, natOf, optVal, readAt, AV.cells, wantedA, putTm, val, allVals, evBin, evInt, evStr, evAppend, evMin, nilCmp, denseFrom, sizesAre, onesIn, evPlan, recheck, H.new, H.put, fillF, fillAt, allOne, AV.one, setArgs, evRes, resOf, ofVal, ofVal0, isShift, ikBeq, TYC, hty, hpl, g5, szF, AV.wk, Enc.enc]
theorem p25_ok : PrimOk Tryz.prog 95 pSz := prim_union pd25_ok (union2 fun a b h => ⟨dep a, Nat.le_refl _, h⟩)
noncomputable abbrev e25 : Env := addPrim env 95 pSz
theorem p12_ok : PrimOk Tryz.prog 54 pSize := prim1_ok (addPrim_ok env_ok p25_ok) (fn := Tryz.f54) (by kernel_rfl) rfl (by kernel_rfl) fun t hf => by
  have k25 := fun h => prim2_call (E := e25) (f := 95) (a := t) (b := (2001 : Int)) (F := szF) (q := qsz') (by kernel_rfl) (Enc.bare 0 t) (Enc.bare 0 (2001 : Int)) ⟨hf, by omega⟩ h
  have hty : e25.ty = env.ty := rfl
  have hpl : e25.plan = env.plan := rfl
  obtain ⟨a0, a1, a2, a3, a4, a5, ha⟩ := nd_cells t
  rw [show (Enc.enc t : AV) = t.av from rfl, show (Enc.enc (2001 : Int) : AV) = .int .i64 2001 from rfl, show (Enc.enc (szF t 2001) : AV) = .int .i64 (szF t 2001) from rfl] at k25
  rw [show (Enc.enc t : AV) = t.av from rfl, show (Enc.enc (sizeF t) : AV) = .int .i64 (szF t 2001) from rfl]
  rw [ha] at k25 ⊢
  generalize szF t 2001 = k at *
  unfold bodyL
  simp only [codeAt, sub, Tryz.f54]
  simp [EVT, endL, evSeq, evOne, evAct, evOp, opKind, evPure, evRead, evNew, evWrite, evSlice, natOf, optVal, readAt, AV.cells, wantedA, putTm, val, allVals, evBin, evInt, evStr, evAppend, evMin, nilCmp, denseFrom, sizesAre, onesIn, evPlan, recheck, H.new, H.put, fillF, fillAt, allOne, AV.one, setArgs, evRes, resOf, ofVal, ofVal0, isShift, ikBeq, TYC, hty, hpl, k25, AV.wk]
end Go.Proofs.YtncccgglillmoaaGreatDoor.Tr
