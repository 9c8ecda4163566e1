/- The tree's shapes; is. -/
import Derived.Test.YtncccgglillmoaaGreatDoorZTB
set_option autoImplicit false
set_option maxRecDepth 100000
set_option linter.unusedSimpArgs false
set_option linter.unusedVariables false
set_option linter.unusedSectionVars false
set_option maxHeartbeats 4000000
namespace Go.Proofs.YtncccgglillmoaaGreatDoor.Tr
open Go.Proofs.YtncccgglillmoaaGreatDoor.Env Go.Ev Go.Ev.Nd Go.Proofs.YtncccgglillmoaaGreatDoor.Lx

def shL : List (List Nat × Sha) := [
  ([105, 110, 116], ⟨false, false, 1000000000000000000, 0⟩), ([98, 111, 111, 108], ⟨false, false, 2, 0⟩), ([117, 110, 105, 116], ⟨false, false, 0, 0⟩), ([110, 105, 108], ⟨false, false, 0, 0⟩),
  ([115, 116, 114], ⟨true, false, 0, 0⟩), ([118, 97, 114], ⟨true, false, 0, 0⟩), ([102, 117, 110], ⟨true, false, 0, 1⟩), ([108, 101, 116], ⟨true, false, 0, 2⟩), ([114, 101, 99], ⟨true, true, 0, 2⟩),
  ([105, 102], ⟨false, false, 0, 3⟩), ([109, 97, 116, 99, 104], ⟨true, true, 0, 3⟩), ([116, 114, 121], ⟨true, false, 0, 2⟩),
  ([115, 101, 113], ⟨false, false, 0, 2⟩), ([115, 101, 116], ⟨false, false, 0, 2⟩), ([101, 113], ⟨false, false, 0, 2⟩), ([108, 101, 115, 115], ⟨false, false, 0, 2⟩), ([99, 111, 110, 115], ⟨false, false, 0, 2⟩), ([97, 100, 100], ⟨false, false, 0, 2⟩), ([115, 117, 98], ⟨false, false, 0, 2⟩), ([99, 97, 116], ⟨false, false, 0, 2⟩), ([109, 117, 108], ⟨false, false, 0, 2⟩), ([97, 112, 112], ⟨false, false, 0, 2⟩), ([112, 97, 105, 114], ⟨false, false, 0, 2⟩), ([108, 105, 110, 107], ⟨false, false, 0, 2⟩),
  ([114, 97, 105, 115, 101], ⟨false, false, 0, 1⟩), ([103, 101, 116], ⟨false, false, 0, 1⟩), ([102, 115, 116], ⟨false, false, 0, 1⟩), ([115, 110, 100], ⟨false, false, 0, 1⟩), ([114, 101, 102], ⟨false, false, 0, 1⟩), ([99, 101, 108, 108], ⟨false, false, 0, 1⟩), ([116, 97, 103], ⟨false, false, 0, 1⟩), ([108, 105, 110, 107, 115], ⟨false, false, 0, 1⟩), ([115, 105, 122, 101], ⟨false, false, 0, 1⟩), ([112, 114, 105, 110, 116], ⟨false, false, 0, 1⟩)]
def esS (l : List (List Nat × Sha)) : List (AV × AV) := l.map fun p => (.str p.1, p.2.av)
def lookS (o : List Nat) : List (List Nat × Sha) → Option Sha
  | [] => none
  | (k, s) :: l => bif natsBeq o k then some s else lookS o l
theorem mapGet_shape (o : List Nat) : ∀ l : List (List Nat × Sha), mapGet (.str o) (esS l) = some ((lookS o l).map Sha.av)
  | [] => rfl
  | (k, s) :: l => by
    have := mapGet_shape o l
    simp only [esS, List.map_cons, mapGet, keyCmp, lookS] at this ⊢
    cases natsBeq o k with
    | true => rfl
    | false => exact this
noncomputable def hS (cs : List AV) : H := match evFn env 200 56 [] ⟨T.e.set 0 (.cells cs), 1⟩ with
  | some (_, h) => h
  | none => ⟨.e, 0⟩
theorem shapes_run (cs : List AV) : evL env 56 [] ⟨T.e.set 0 (.cells cs), 1⟩ = some (.map (some 1), hS cs) := evL_of env (k := 200) (by kernel_rfl)
theorem hS_1 (cs : List AV) : (hS cs).t.get 1 = some (.map (esS shL)) := by kernel_rfl
theorem hS_0 (cs : List AV) : (hS cs).t.get 0 = some (.cells cs) := by kernel_rfl
theorem hS_n (cs : List AV) : (hS cs).nx = 2 := by kernel_rfl
def maxI (l : Int) : Int := bif ltI l 1 then 1 else l
mutual
def isT : Nd → Bool
  | .mk o p q n a ks => match lookS o shL with
    | none => false
    | some s => namT o p q s.a s.b && (!ltI n 0 && (ltI n (maxI s.l) && (intBeq ↑ks.length s.k && isTL ks)))
def isTL : List Nd → Bool
  | [] => true
  | t :: l => isT t && isTL l
end
def Grow (h h' : H) : Prop := h.nx ≤ h'.nx ∧ ∀ j, j < h.nx → h'.t.get j = h.t.get j
theorem Grow.refl (h : H) : Grow h h := ⟨Nat.le_refl _, fun _ _ => rfl⟩
theorem Grow.trans {a b c : H} (x : Grow a b) (y : Grow b c) : Grow a c := ⟨Nat.le_trans x.1 y.1, fun j hj => by rw [y.2 j (Nat.lt_of_lt_of_le hj x.1), x.2 j hj]⟩
theorem Grow.new (h : H) (o : Ev.Obj) : Grow h ⟨h.t.set h.nx o, h.nx + 1⟩ := ⟨Nat.le_succ _, fun j hj => by simp only [T.get_set_ite]; rw [if_neg (by omega)]⟩
/-- What the closure holds: a box with the map of shapes. -/
structure Sh (b m : Nat) (h : H) : Prop where
  gb : h.t.get b = some (.cells [.map (some m)])
  gm : h.t.get m = some (.map (esS shL))
  lb : b < h.nx
  lm : m < h.nx
theorem Sh.grow {b m : Nat} {h h' : H} (s : Sh b m h) (g : Grow h h') : Sh b m h' := ⟨by rw [g.2 b s.lb]; exact s.gb, by rw [g.2 m s.lm]; exact s.gm, Nat.lt_of_lt_of_le s.lb g.1, Nat.lt_of_lt_of_le s.lm g.1⟩
noncomputable abbrev e34 : Env := addPrim (addPrim env 54 pSize) 96 pNamesT
theorem e34_ok : EnvOk Tryz.prog e34 := addPrim_ok (addPrim_ok env_ok p12_ok) p34_ok
theorem body35 : Tryz.f98.body = some (codeAt Tryz.f98 []) := rfl
theorem sub35 {b m : Nat} {t : Nd} (hc : ∀ h, h.t.get m = some (.map (esS shL)) → m < h.nx → ∃ h', evL e34 55 [t.av, .map (some m)] h = some (.bool (isT t), h') ∧ Grow h h') (h : H) (s : Sh b m h) :
    ∃ h', evL e34 98 [t.av, .ptr (some (b, 0))] h = some (.bool (!isT t), h') ∧ Grow h h' := by
  have hty : e34.ty = env.ty := rfl
  have hpl : e34.plan = env.plan := rfl
  have nb : ¬ b = h.nx := by have := s.lb; omega
  have gn := Grow.new h (.cells [.str t.op, .str t.name, .str t.arg, .int .i64 t.n, .int .i64 t.at_, .sl .no (avs t.kids)])
  obtain ⟨h', e, g⟩ := hc ⟨h.t.set h.nx (.cells [.str t.op, .str t.name, .str t.arg, .int .i64 t.n, .int .i64 t.at_, .sl .no (avs t.kids)]), h.nx + 1⟩ (s.grow gn).gm (s.grow gn).lm
  rw [evL_fn e34 (by kernel_rfl) (by kernel_rfl) body35 _ _ rfl]
  simp only [codeAt, sub, Tryz.f98]
  rw [cells_ t] at e ⊢
  refine ⟨h', ?_, gn.trans g⟩
  simp [EVT, endL, evSeq, evOne, evAct, evOp, opKind, evPure, evRead, evNew, evWrite, evSlice, natOf, optVal, readAt, AV.cells, wantedA, putTm, val, allVals, evBin, evInt, evStr, evAppend, evMin, nilCmp, denseFrom, sizesAre, onesIn, evPlan, recheck, H.new, H.put, fillF, fillAt, allOne, AV.one, setArgs, evRes, resOf, ofVal, ofVal0, isShift, ikBeq, TYC, hty, hpl, s.gb, nb, e]
noncomputable def b36_0 : Code := loopOf Tryz.f122 0
theorem body36 : Tryz.f122.body = some (.seq (codeAt Tryz.f122 [0]) (.seq (.seq (codeAt Tryz.f122 [1, 0, 0]) (.block 0 (.loop b36_0))) (codeAt Tryz.f122 [1, 1]))) := rfl
theorem loop36 {b m d : Nat} {ks : List Nd} (hl : ks.length ≤ 9223372036854775807) (hf : fits ks) (hd : deps ks ≤ d)
    (hc : ∀ t h, dep t ≤ d → fit t → h.t.get m = some (.map (esS shL)) → m < h.nx → ∃ h', evL e34 55 [t.av, .map (some m)] h = some (.bool (isT t), h') ∧ Grow h h') :
    ∀ (l : List Nd) (i : Nat) {tm : Tm} {h : H} {x : Option (Ex × Tm × H)}, cdL e34 122 19 (.loop b36_0) tm h = x → l = ks.drop i → i ≤ ks.length → Sh b m h →
    tm.get 0 = some (.sl .no (avs ks)) → tm.get 1 = some (.fn 98 [] [.ptr (some (b, 0))]) → tm.get 7 = some (.int .i64 ↑ks.length) → tm.get 8 = some (.int .i64 ↑i) →
    ∃ tm' h', x = some (bif isTL l then .exit 0 else .ret, tm', h') ∧ Grow h h' ∧ (isTL l = false → ∃ j : Nat, tm'.get 4 = some (.int .i64 ↑j))
  | [], i, tm, h, x, hx, hd, hi, s, h0, h1, h7, h8 => by
    have hlen := dnil hd hi
    obtain ⟨R, hR, hx⟩ := loop_step hx
    simp [b36_0, loopOf, Tryz.f122, loops, EVT, endL, evSeq, evOne, evAct, evOp, opKind, evPure, evRead, evNew, evWrite, evSlice, natOf, optVal, readAt, AV.cells, wantedA, putTm, val, allVals, evBin, evInt, evStr, evAppend, evMin, nilCmp, denseFrom, sizesAre, onesIn, evPlan, recheck, H.new, H.put, fillF, fillAt, allOne, AV.one, setArgs, evRes, resOf, ofVal, ofVal0, isShift, ikBeq, TYC, lp, show e34.ty = env.ty from rfl, show e34.plan = env.plan from rfl, h0, h1, h7, h8, hlen, ltI_f] at hx
    exact ⟨_, _, by rw [← hx]; rfl, .refl _, by simp [isTL]⟩
  | t :: l, i, tm, h, x, hx, hdr, hi, s, h0, h1, h7, h8 => by
    obtain ⟨hlt, hct, hd'⟩ := dcons hdr
    have hat := avs_get hct
    have htm := List.mem_of_getElem? hct
    obtain ⟨R, hR, hx⟩ := loop_step hx
    have hlt' := ltI_t hlt
    have hw := wr_succ (i := i) (by omega)
    obtain ⟨h1', e, g⟩ := sub35 (fun h => hc t h (Nat.le_trans (dep_mem htm) hd) (fits_mem.1 hf t htm)) h s
    rw [cells_ t] at hat e
    simp only [isTL]
    cases hb : isT t with
    | false =>
      simp [b36_0, loopOf, Tryz.f122, loops, EVT, endL, evSeq, evOne, evAct, evOp, opKind, evPure, evRead, evNew, evWrite, evSlice, natOf, optVal, readAt, AV.cells, wantedA, putTm, val, allVals, evBin, evInt, evStr, evAppend, evMin, nilCmp, denseFrom, sizesAre, onesIn, evPlan, recheck, H.new, H.put, fillF, fillAt, allOne, AV.one, setArgs, evRes, resOf, ofVal, ofVal0, isShift, ikBeq, TYC, lp, show e34.ty = env.ty from rfl, show e34.plan = env.plan from rfl, h0, h1, h7, h8, hlt', hat, e, hb] at hx
      exact ⟨_, _, by rw [← hx]; rfl, g, fun _ => ⟨i, by simp [T.get_set_ite]⟩⟩
    | true =>
      simp [b36_0, loopOf, Tryz.f122, loops, EVT, endL, evSeq, evOne, evAct, evOp, opKind, evPure, evRead, evNew, evWrite, evSlice, natOf, optVal, readAt, AV.cells, wantedA, putTm, val, allVals, evBin, evInt, evStr, evAppend, evMin, nilCmp, denseFrom, sizesAre, onesIn, evPlan, recheck, H.new, H.put, fillF, fillAt, allOne, AV.one, setArgs, evRes, resOf, ofVal, ofVal0, isShift, ikBeq, TYC, lp, show e34.ty = env.ty from rfl, show e34.plan = env.plan from rfl, h0, h1, h7, h8, hlt', hat, e, hb, hw] at hx
      rw [hR] at hx
      simp only [Bool.true_and]
      obtain ⟨tm', h', r1, r2, r3⟩ := loop36 hl hf hd hc l (i + 1) hx hd' hlt (s.grow g) (by simp [T.get_set_ite, h0]) (by simp [T.get_set_ite, h1]) (by simp [T.get_set_ite, h7]) (by simp [T.get_set_ite])
      exact ⟨tm', h', r1, g.trans r2, r3⟩
theorem body23 : Tryz.f97.body = some (codeAt Tryz.f97 []) := rfl
theorem contains_run {b m d : Nat} {ks : List Nd} (hl : ks.length ≤ 9223372036854775807) (hf : fits ks) (hd : deps ks ≤ d)
    (hc : ∀ t h, dep t ≤ d → fit t → h.t.get m = some (.map (esS shL)) → m < h.nx → ∃ h', evL e34 55 [t.av, .map (some m)] h = some (.bool (isT t), h') ∧ Grow h h') (h : H) (s : Sh b m h) :
    ∃ h', evL e34 97 [.sl .no (avs ks), .fn 98 [] [.ptr (some (b, 0))]] h = some (.bool (!isTL ks), h') ∧ Grow h h' := by
  have hty : e34.ty = env.ty := rfl
  have hpl : e34.plan = env.plan := rfl
  have hil := avs_len ks
  have k36 : ∃ h' j, evL e34 122 [.sl .no (avs ks), .fn 98 [] [.ptr (some (b, 0))]] h = some (.int .i64 j, h') ∧ Grow h h' ∧ ltI j 0 = isTL ks := by
    rw [evL_fn e34 (by kernel_rfl) (by kernel_rfl) body36 _ _ rfl]
    simp only [codeAt, sub, Tryz.f122]
    simp [EVT, endL, evSeq, evOne, evAct, evOp, opKind, evPure, evRead, evNew, evWrite, evSlice, natOf, optVal, readAt, AV.cells, wantedA, putTm, val, allVals, evBin, evInt, evStr, evAppend, evMin, nilCmp, denseFrom, sizesAre, onesIn, evPlan, recheck, H.new, H.put, fillF, fillAt, allOne, AV.one, setArgs, evRes, resOf, ofVal, ofVal0, isShift, ikBeq, TYC, hty, hpl, hil]
    generalize hx : cdL e34 122 19 (.loop b36_0) _ _ = x
    obtain ⟨tm', h', rfl, g, r⟩ := loop36 hl hf hd hc ks 0 hx rfl (Nat.zero_le _) s (by simp [T.get_set_ite]) (by simp [T.get_set_ite]) (by simp [T.get_set_ite]) (by simp [T.get_set_ite])
    cases hb : isTL ks with
    | true => exact ⟨h', -1, by simp [EVT, endL, evSeq, evOne, evAct, evOp, opKind, evPure, evRead, evNew, evWrite, evSlice, natOf, optVal, readAt, AV.cells, wantedA, putTm, val, allVals, evBin, evInt, evStr, evAppend, evMin, nilCmp, denseFrom, sizesAre, onesIn, evPlan, recheck, H.new, H.put, fillF, fillAt, allOne, AV.one, setArgs, evRes, resOf, ofVal, ofVal0, isShift, ikBeq, TYC, hty, hpl], g, rfl⟩
    | false =>
      obtain ⟨j, hj⟩ := r hb
      exact ⟨h', ↑j, by simp [EVT, endL, evSeq, evOne, evAct, evOp, opKind, evPure, evRead, evNew, evWrite, evSlice, natOf, optVal, readAt, AV.cells, wantedA, putTm, val, allVals, evBin, evInt, evStr, evAppend, evMin, nilCmp, denseFrom, sizesAre, onesIn, evPlan, recheck, H.new, H.put, fillF, fillAt, allOne, AV.one, setArgs, evRes, resOf, ofVal, ofVal0, isShift, ikBeq, TYC, hty, hpl, hj], g, by rw [ltI_eq]; simp⟩
  obtain ⟨h', j, e, g, hj⟩ := k36
  rw [evL_fn e34 (by kernel_rfl) (by kernel_rfl) body23 _ _ rfl]
  simp only [codeAt, sub, Tryz.f97]
  exact ⟨h', by simp [EVT, endL, evSeq, evOne, evAct, evOp, opKind, evPure, evRead, evNew, evWrite, evSlice, natOf, optVal, readAt, AV.cells, wantedA, putTm, val, allVals, evBin, evInt, evStr, evAppend, evMin, nilCmp, denseFrom, sizesAre, onesIn, evPlan, recheck, H.new, H.put, fillF, fillAt, allOne, AV.one, setArgs, evRes, resOf, ofVal, ofVal0, isShift, ikBeq, TYC, hty, hpl, e, hj], g⟩
end Go.Proofs.YtncccgglillmoaaGreatDoor.Tr
/- The tree's is, walked; Is. -/
set_option maxHeartbeats 4000000
namespace Go.Proofs.YtncccgglillmoaaGreatDoor.Tr
open Go.Proofs.YtncccgglillmoaaGreatDoor.Env Go.Ev Go.Ev.Nd Go.Proofs.YtncccgglillmoaaGreatDoor.Lx

def GrowT (h : H) (t : T Ev.Obj) : Prop := ∀ j, j < h.nx → t.get j = h.t.get j
theorem GrowT.set {h : H} {t : T Ev.Obj} {k : Nat} {o : Ev.Obj} (hk : h.nx ≤ k) (g : GrowT h t) : GrowT h (t.set k o) := fun j hj => by
  simp only [T.get_set_ite]
  rw [if_neg (by omega)]
  exact g j hj
theorem Grow.of {h : H} {t : T Ev.Obj} {n : Nat} (hn : h.nx ≤ n) (g : GrowT h t) : Grow h ⟨t, n⟩ := ⟨hn, g⟩
theorem sh_iff {b m : Nat} {h : H} : Sh b m h ↔ h.t.get b = some (.cells [.map (some m)]) ∧ h.t.get m = some (.map (esS shL)) ∧ b < h.nx ∧ m < h.nx := ⟨fun s => ⟨s.gb, s.gm, s.lb, s.lm⟩, fun s => ⟨s.1, s.2.1, s.2.2.1, s.2.2.2⟩⟩
theorem body21 : Tryz.f55.body = some (codeAt Tryz.f55 []) := rfl
theorem is_run {m : Nat} : ∀ (d : Nat) (t : Nd) (h : H), dep t ≤ d → fit t → h.t.get m = some (.map (esS shL)) → m < h.nx → ∃ h', evL e34 55 [t.av, .map (some m)] h = some (.bool (isT t), h') ∧ Grow h h'
  | 0, t, h, hd, _, _, _ => by have := dep_pos t; omega
  | d + 1, t, h, hd, hf, gm, lm => by
    have hty : e34.ty = env.ty := rfl
    have hpl : e34.plan = env.plan := rfl
    have k34 : ∀ (s : Sha) h, evL e34 96 [t.av, s.av] h = some (.bool (namT t.op t.name t.arg s.a s.b), h) := fun s h =>
      prim2_call (a := t) (b := s) (F := fun (t : Nd) (s : Sha) => namT t.op t.name t.arg s.a s.b) (q := fun (t : Nd) (_ : Sha) => fit t) (by kernel_rfl) (Enc.bare 0 t) (Enc.bare 0 s) hf h
    obtain ⟨o, p, q, n, a, ks⟩ := t
    simp only [dep] at hd
    simp only [fit] at hf
    obtain ⟨F, hF⟩ : ∃ F : H → H, ∀ g, Sh (h.nx + 1) m g → evL e34 97 [.sl .no (avs ks), .fn 98 [] [.ptr (some (h.nx + 1, 0))]] g = some (.bool (!isTL ks), F g) ∧ Grow g (F g) := by
      have := fun g (s : Sh (h.nx + 1) m g) => contains_run (b := h.nx + 1) (m := m) hf.2.2.2.2.2.1 hf.2.2.2.2.2.2 (d := d) (by omega) (fun t h a b c e => is_run (m := m) d t h a b c e) g s
      classical
      exact ⟨fun g => if s : Sh (h.nx + 1) m g then (this g s).choose else g, fun g s => by simp only [dif_pos s]; exact (this g s).choose_spec⟩
    have k23 := fun g s => (hF g s).1
    have hgr := fun g s => (hF g s).2
    have hmg := mapGet_shape o shL
    have hil := avs_len ks
    have n0 : ¬ m = h.nx := by omega
    have n1 : ¬ m = h.nx + 1 := by omega
    have n2 : ¬ m = h.nx + 1 + 1 := by omega
    have e02 : ¬ h.nx = h.nx + 1 + 1 := by omega
    have e12 : ¬ h.nx + 1 = h.nx + 1 + 1 := by omega
    have e01 : ¬ h.nx = h.nx + 1 := by omega
    have l3 : m < h.nx + 1 + 1 + 1 := by omega
    have m3 : m < h.nx + 3 := by omega
    have n2' : ¬ m = h.nx + 2 := by omega
    simp only [isT]
    simp only [Nd.op, Nd.name, Nd.arg, Nd.av] at k34
    rw [evL_fn e34 (by kernel_rfl) (by kernel_rfl) body21 _ _ rfl]
    simp only [codeAt, sub, Tryz.f55, Nd.av]
    cases hlk : lookS o shL with
    | none =>
      rw [hlk] at hmg
      simp only [Option.map_none] at hmg
      simp [EVT, endL, evSeq, evOne, evAct, evOp, opKind, evPure, evRead, evNew, evWrite, evSlice, natOf, optVal, readAt, AV.cells, wantedA, putTm, val, allVals, evBin, evInt, evStr, evAppend, evMin, nilCmp, denseFrom, sizesAre, onesIn, evPlan, recheck, H.new, H.put, fillF, fillAt, allOne, AV.one, setArgs, evRes, resOf, ofVal, ofVal0, isShift, ikBeq, TYC, hty, hpl, keyOk, gm, n0, n1, n2, e02, e12, e01, hmg]
      exact .of (by omega) (.set (by omega) (.set (by omega) (.set (by omega) (.set (by omega) fun _ _ => rfl))))
    | some s =>
      obtain ⟨sa, sb, sl, sk⟩ := s
      rw [hlk] at hmg
      simp only [Option.map_some, Sha.av] at hmg
      have k34' := k34 ⟨sa, sb, sl, sk⟩
      simp only [Sha.av] at k34'
      simp only
      cases h1 : namT o p q sa sb with
      | false =>
        simp [EVT, endL, evSeq, evOne, evAct, evOp, opKind, evPure, evRead, evNew, evWrite, evSlice, natOf, optVal, readAt, AV.cells, wantedA, putTm, val, allVals, evBin, evInt, evStr, evAppend, evMin, nilCmp, denseFrom, sizesAre, onesIn, evPlan, recheck, H.new, H.put, fillF, fillAt, allOne, AV.one, setArgs, evRes, resOf, ofVal, ofVal0, isShift, ikBeq, TYC, hty, hpl, keyOk, gm, n0, n1, n2, e02, e12, e01, hmg, k34', h1]
        exact .of (by omega) (.set (by omega) (.set (by omega) (.set (by omega) (.set (by omega) fun _ _ => rfl))))
      | true =>
        cases h2 : ltI n 0 with
        | true =>
          simp [EVT, endL, evSeq, evOne, evAct, evOp, opKind, evPure, evRead, evNew, evWrite, evSlice, natOf, optVal, readAt, AV.cells, wantedA, putTm, val, allVals, evBin, evInt, evStr, evAppend, evMin, nilCmp, denseFrom, sizesAre, onesIn, evPlan, recheck, H.new, H.put, fillF, fillAt, allOne, AV.one, setArgs, evRes, resOf, ofVal, ofVal0, isShift, ikBeq, TYC, hty, hpl, keyOk, gm, n0, n1, n2, e02, e12, e01, hmg, k34', h1, h2]
          exact .of (by omega) (.set (by omega) (.set (by omega) (.set (by omega) (.set (by omega) fun _ _ => rfl))))
        | false =>
          cases h3 : ltI n (maxI sl) with
          | false =>
            have h3' := h3
            unfold maxI at h3'
            simp [EVT, endL, evSeq, evOne, evAct, evOp, opKind, evPure, evRead, evNew, evWrite, evSlice, natOf, optVal, readAt, AV.cells, wantedA, putTm, val, allVals, evBin, evInt, evStr, evAppend, evMin, nilCmp, denseFrom, sizesAre, onesIn, evPlan, recheck, H.new, H.put, fillF, fillAt, allOne, AV.one, setArgs, evRes, resOf, ofVal, ofVal0, isShift, ikBeq, TYC, hty, hpl, keyOk, gm, n0, n1, n2, e02, e12, e01, hmg, k34', h1, h2, h3']
            exact .of (by omega) (.set (by omega) (.set (by omega) (.set (by omega) (.set (by omega) fun _ _ => rfl))))
          | true =>
            have h3' := h3
            unfold maxI at h3'
            cases h4 : intBeq ↑ks.length sk with
            | false =>
              simp [EVT, endL, evSeq, evOne, evAct, evOp, opKind, evPure, evRead, evNew, evWrite, evSlice, natOf, optVal, readAt, AV.cells, wantedA, putTm, val, allVals, evBin, evInt, evStr, evAppend, evMin, nilCmp, denseFrom, sizesAre, onesIn, evPlan, recheck, H.new, H.put, fillF, fillAt, allOne, AV.one, setArgs, evRes, resOf, ofVal, ofVal0, isShift, ikBeq, TYC, hty, hpl, keyOk, gm, n0, n1, n2, e02, e12, e01, hmg, k34', h1, h2, h3', hil, h4]
              exact .of (by omega) (.set (by omega) (.set (by omega) (.set (by omega) (.set (by omega) fun _ _ => rfl))))
            | true =>
              simp [EVT, endL, evSeq, evOne, evAct, evOp, opKind, evPure, evRead, evNew, evWrite, evSlice, natOf, optVal, readAt, AV.cells, wantedA, putTm, val, allVals, evBin, evInt, evStr, evAppend, evMin, nilCmp, denseFrom, sizesAre, onesIn, evPlan, recheck, H.new, H.put, fillF, fillAt, allOne, AV.one, setArgs, evRes, resOf, ofVal, ofVal0, isShift, ikBeq, TYC, hty, hpl, keyOk, gm, n0, n1, n2, e02, e12, e01, n2', hmg, k34', h1, h2, h3', hil, h4, k23, sh_iff, l3, m3]
              refine Grow.trans ?_ (hgr _ ?_)
              · exact .of (by omega) (.set (by omega) (.set (by omega) (.set (by omega) (.set (by omega) fun _ _ => rfl))))
              · rw [sh_iff]; simp [T.get_set_ite, gm, n0, n1, n2, e02, e12, e01, n2']; omega
end Go.Proofs.YtncccgglillmoaaGreatDoor.Tr
