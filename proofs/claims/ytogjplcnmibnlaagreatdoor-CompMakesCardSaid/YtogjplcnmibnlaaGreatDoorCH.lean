/- The machine of this seat, with what is taken as primitive. -/
import Derived.Test.YtogjplcnmibnlaaGreatDoorCB
import Derived.Test.YtogjplcnmibnlaaGreatDoorEvY
import Derived.Test.YtogjplcnmibnlaaGreatDoorEvV
import Derived.Test.YtogjplcnmibnlaaGreatDoorCFacts
set_option autoImplicit false
set_option maxRecDepth 100000
set_option linter.unusedSimpArgs false
set_option linter.unusedVariables false
set_option linter.unusedSectionVars false
namespace Go.Proofs.YtogjplcnmibnlaaGreatDoor.Env
open Go.Ev
noncomputable def env1 : Env := addPrim env0 21 (primBare (pT 30))
theorem env1_ok : EnvOk Tryz.prog env1 := addPrim_ok env0_ok (pT_ok 30)
end Go.Proofs.YtogjplcnmibnlaaGreatDoor.Env
/- Code in the heap; puts, here. -/
set_option maxHeartbeats 1000000
namespace Go.Proofs.YtogjplcnmibnlaaGreatDoor.Env
open Go.Ev

/-- An instruction. -/
structure Ins where
  op : Int
  n : Int
def insC : List Ins → List AV
  | [] => []
  | i :: l => .int .i64 i.op :: .int .i64 i.n :: insC l
theorem insC_app (a b : List Ins) : insC (a ++ b) = insC a ++ insC b := by
  induction a with
  | nil => rfl
  | cons i l ih => simp [insC, ih]
theorem insC_len (l : List Ins) : (insC l).length = l.length * 2 := by
  induction l with
  | nil => rfl
  | cons i l ih => simp only [insC, List.length_cons, ih]; omega
theorem insC_one (l : List Ins) : allOne (insC l) = true := by
  induction l with
  | nil => rfl
  | cons i l ih => simp [insC, allOne, AV.one, ih]
/-- What a slice's value says of the heap: the code. -/
def CodeR (h : H) (v : AV) (l : List Ins) : Prop := (v = .sl .full [] ∧ l = []) ∨ ∃ id, v = .rs id l.length true ∧ h.t.get id = some (.row l.length 62 2 (insC l)) ∧ id < h.nx
/-- The row that a slice's value is. -/
def ridOf : AV → Option Nat
  | .rs id _ _ => some id
  | _ => none
/-- What stays. -/
def Fr (S : List Nat) (h h' : H) : Prop := h.nx ≤ h'.nx ∧ ∀ j, j < h.nx → j ∉ S → h'.t.get j = h.t.get j
theorem Fr.refl (S : List Nat) (h : H) : Fr S h h := ⟨Nat.le_refl _, fun _ _ _ => rfl⟩
theorem CodeR.mono {h h' : H} {v : AV} {l : List Ins} (hc : CodeR h v l) (hn : h.nx ≤ h'.nx) (hg : ∀ j, ridOf v = some j → j < h.nx → h'.t.get j = h.t.get j) : CodeR h' v l := by
  rcases hc with ⟨rfl, rfl⟩ | ⟨id, rfl, h1, h2⟩
  · exact .inl ⟨rfl, rfl⟩
  · exact .inr ⟨id, rfl, by rw [hg id rfl h2]; exact h1, Nat.lt_of_lt_of_le h2 hn⟩
theorem appR_code {h : H} {v : AV} {l : List Ins} (hc : CodeR h v l) (hl : l.length ≤ 1000000) {i1 : Nat} {x : Ins} (h1 : h.t.get i1 = some (.row 1 62 2 (insC [x]))) :
    ∃ v' h', evAppR 62 2 16 h v (.rs i1 1 true) = some (v', h') ∧ CodeR h' v' (l ++ [x]) ∧ Fr (ridOf v).toList h h' ∧ ∃ id, v' = .rs id (l.length + 1) true ∧ (ridOf v = some id ∨ h.nx ≤ id) := by
  have hr : rowCells 2 h (.rs i1 1 true) = some (1, insC [x]) := by simp [rowCells, h1, insC, allOne, AV.one]
  rcases hc with ⟨rfl, rfl⟩ | ⟨id, rfl, hg, hi⟩
  · refine ⟨.rs h.nx 1 true, h.new (.row 1 62 2 (insC [x])), ?_, .inr ⟨h.nx, rfl, T.get_set _ _ _, Nat.lt_succ_self _⟩, ⟨Nat.le_succ _, fun j hj _ => T.get_set_ne _ _ (by omega)⟩, h.nx, rfl, .inr (Nat.le_refl _)⟩
    unfold evAppR
    rw [hr]
    simp [insC]
    rfl
  · refine ⟨.rs id (l.length + 1) true, h.put id (.row (l.length + 1) 62 2 (insC l ++ insC [x])), ?_, .inr ⟨id, by simp, ?_, hi⟩, ⟨Nat.le_refl _, fun j hj hm => T.get_set_ne _ _ (by simpa [ridOf] using hm)⟩, id, rfl, .inl rfl⟩
    · unfold evAppR
      rw [hr]
      have : (l.length + 1) * 16 ≤ 140737488355328 := by omega
      simp [insC, hg, ble_dec, this]
      rfl
    · rw [insC_app]
      simp [H.put, T.get_set]
theorem body43 : Tryz.f43.body = some (codeAt Tryz.f43 []) := rfl
theorem puts_run {E : Env} (hty : E.ty = env.ty) (hpl : E.plan = env.plan) (h43 : E.prim 43 = none) (hfn : E.fns = env.fns) {f : Nat} {m v : AV} {l : List Ins} {h : H} (hf : h.t.get f = some (.cells [m, v])) (hfx : f < h.nx) (hc : CodeR h v l) (hl : l.length ≤ 1000000) (hv : ridOf v ≠ some f) (hm : m.one = true) (op n : Int) :
    ∃ h' v', evL E 43 [.ptr (some (f, 0)), .int .i64 op, .int .i64 n] h = some (.int .i64 ↑l.length, h') ∧ h'.t.get f = some (.cells [m, v']) ∧ CodeR h' v' (l ++ [⟨op, n⟩]) ∧ Fr (f :: (ridOf v).toList) h h' ∧ (∃ id, v' = .rs id (l.length + 1) true ∧ (ridOf v = some id ∨ h.nx ≤ id)) := by
  have gn : ∀ j, j < h.nx → (⟨h.t.set h.nx (.row 1 62 2 (insC [⟨op, n⟩])), h.nx + 1⟩ : H).t.get j = h.t.get j := fun j hj => T.get_set_ne _ _ (by omega)
  obtain ⟨v', h2, k1, k2, k3, id, rfl, k5⟩ := appR_code (h := ⟨h.t.set h.nx (.row 1 62 2 (insC [⟨op, n⟩])), h.nx + 1⟩) (hc.mono (Nat.le_succ _) fun j _ hj => gn j hj) hl (i1 := h.nx) (x := ⟨op, n⟩) (T.get_set _ _ _)
  have hf2 : h2.t.get f = some (.cells [m, v]) := by
    rw [k3.2 f (Nat.lt_succ_of_lt hfx) (by cases hr : ridOf v with | none => simp | some i => simp; rintro rfl; exact hv hr), gn f hfx]
    exact hf
  have hidf : id ≠ f := by
    rintro rfl
    rcases k5 with e | e
    · exact hv e
    · simp at e; omega
  have hw : wr .i64 (Int.sub ((↑l.length : Int) + 1) 1) = ↑l.length := by rw [show Int.sub ((↑l.length : Int) + 1) 1 = ↑l.length from Int.add_sub_cancel ..]; rw [wr_eq]; exact wrap_i64_in (by omega) (by omega)
  refine ⟨⟨h2.t.set f (.cells [m, .rs id (l.length + 1) true]), h2.nx⟩, .rs id (l.length + 1) true, ?_, T.get_set _ _ _, ?_, ⟨Nat.le_trans (Nat.le_succ _) k3.1, fun j hj hm' => ?_⟩, id, rfl, k5.imp (fun e => e) fun e => by simp at e; omega⟩
  · rw [evL_fn E (by rw [h43]) (by rw [hfn]; kernel_rfl) body43 _ _ rfl]
    simp only [codeAt, sub, Tryz.f43]
    simp only [insC] at k1
    have hn1 : f ≠ h.nx := by omega
    simp [EVT, endL, evSeq, evOne, evAct, evOp, opKind, evPure, evRead, evNew, evWrite, evSlice, natOf, optVal, readAt, AV.cells, wantedA, putTm, val, allVals, evBin, evInt, evStr, evAppend, evMin, nilCmp, denseFrom, sizesAre, onesIn, evPlan, recheck, H.new, H.put, fillF, fillAt, allOne, AV.one, setArgs, evRes, resOf, ofVal, ofVal0, isShift, ikBeq, TYC, hty, hpl, hf, hn1, k1, hf2, hm, hw]
  · refine k2.mono (Nat.le_refl _) fun j hj _ => ?_
    simp only [ridOf, Option.some.injEq] at hj
    exact T.get_set_ne _ _ (by omega)
  · simp only [List.mem_cons, not_or] at hm'
    rw [show (⟨h2.t.set f (.cells [m, .rs id (l.length + 1) true]), h2.nx⟩ : H).t.get j = h2.t.get j from T.get_set_ne _ _ hm'.1, k3.2 j (Nat.lt_succ_of_lt hj) hm'.2, gn j hj]
/-- An instruction leads somewhere. -/
def hereF (l : List Ins) (p : Nat) : List Ins := l.modify p fun i => ⟨i.op, ↑l.length⟩
theorem hereF_len (l : List Ins) (p : Nat) : (hereF l p).length = l.length := by simp [hereF]
theorem insC_fill : ∀ (l : List Ins) (p : Nat) (n : Int), p < l.length → fillAt (insC l) (p * 2 + 1) [.int .i64 n] = insC (l.modify p fun i => ⟨i.op, n⟩)
  | [], p, n, h => by simp at h
  | i :: l, 0, n, h => by simp [insC, fillAt]
  | i :: l, p + 1, n, h => by
    have := insC_fill l p n (by simpa using h)
    rw [show (p + 1) * 2 + 1 = (p * 2 + 1) + 1 + 1 by omega]
    simp [insC, fillAt, this]
theorem body115 : Tryz.f115.body = some (codeAt Tryz.f115 []) := rfl
theorem here_run {E : Env} (hty : E.ty = env.ty) (hpl : E.plan = env.plan) (h115 : E.prim 115 = none) (hfn : E.fns = env.fns) {f id : Nat} {m : AV} {l : List Ins} {h : H} (hf : h.t.get f = some (.cells [m, .rs id l.length true])) (hc : h.t.get id = some (.row l.length 62 2 (insC l))) (hl : l.length ≤ 1000000) {p : Nat} (hp : p < l.length) :
    evL E 115 [.ptr (some (f, 0)), .int .i64 ↑p] h = some (.tup [], ⟨h.t.set id (.row l.length 62 2 (insC (hereF l p))), h.nx⟩) := by
  rw [evL_fn E (by rw [h115]) (by rw [hfn]; kernel_rfl) body115 _ _ rfl]
  simp only [codeAt, sub, Tryz.f115]
  have hfl := insC_fill l p ↑l.length hp
  have hlen := insC_len l
  have hle : p * 2 + 1 + 1 ≤ l.length * 2 := by omega
  have hbl : Nat.blt p l.length = true := blt_nat.2 hp
  simp [EVT, endL, evSeq, evOne, evAct, evOp, opKind, evPure, evRead, evNew, evWrite, evSlice, natOf, optVal, readAt, AV.cells, wantedA, putTm, val, allVals, evBin, evInt, evStr, evAppend, evMin, nilCmp, denseFrom, sizesAre, onesIn, evPlan, recheck, H.new, H.put, fillF, fillAt, allOne, AV.one, setArgs, evRes, resOf, ofVal, ofVal0, isShift, ikBeq, TYC, hty, hpl, hf, hc, hp, hlen, hle, hfl, hbl, hereF]
  trace_state
end Go.Proofs.YtogjplcnmibnlaaGreatDoor.Env
/- Where a string stands in a row; a maker's strings. -/
set_option maxHeartbeats 1000000
namespace Go.Proofs.YtogjplcnmibnlaaGreatDoor.Env
open Go.Ev Go.Ev.Nd

def idxS (v : List Nat) : List Str → Nat → Int
  | [], _ => -1
  | t :: l, i => bif natsBeq v t.s then ↑i else idxS v l (i + 1)
theorem idxS_neg {v : List Nat} : ∀ {l : List Str} (i : Nat), ltI (idxS v l i) 0 = !hasS l v
  | [], i => rfl
  | t :: l, i => by
    simp only [idxS, hasS, List.any_cons]
    cases hb : natsBeq v t.s with
    | true => simp only [cond_true, Bool.true_or, Bool.not_true, ltI_eq]; simp
    | false => simp only [cond_false, Bool.false_or]; exact idxS_neg (l := l) (i + 1)
noncomputable def b34_0 : Code := loopOf Tryz.f34 0
theorem body34 : Tryz.f34.body = some (.seq (codeAt Tryz.f34 [0]) (.seq (.seq (codeAt Tryz.f34 [1, 0, 0]) (.block 0 (.loop b34_0))) (codeAt Tryz.f34 [1, 1]))) := rfl
theorem loop34 {E : Env} (hty : E.ty = env.ty) (hpl : E.plan = env.plan) {o : Own} {L : List Str} {v : List Nat} (hl : L.length ≤ 9223342036854775807) : ∀ (l : List Str) (i : Nat) {tm : Tm} {h : H} {x : Option (Ex × Tm × H)}, cdL E 34 19 (.loop b34_0) tm h = x → l = L.drop i → i ≤ L.length →
    tm.get 0 = some (.sl o (strs L)) → tm.get 1 = some (.str v) → tm.get 7 = some (.int .i64 ↑L.length) → tm.get 8 = some (.int .i64 ↑i) → ∃ tm', x = some (bif hasS l v then .ret else .exit 0, tm', h) ∧ (hasS l v = true → tm'.get 4 = some (.int .i64 (idxS v l i)))
  | [], i, tm, h, x, hx, hd, hi, h0, h1, h7, h8 => by
    have hlen := dnil hd hi
    obtain ⟨R, hR, hx⟩ := loop_step hx
    simp [b34_0, loopOf, Tryz.f34, loops, EVT, endL, evSeq, evOne, evAct, evOp, opKind, evPure, evRead, evNew, evWrite, evSlice, natOf, optVal, readAt, AV.cells, wantedA, putTm, val, allVals, evBin, evInt, evStr, evAppend, evMin, nilCmp, denseFrom, sizesAre, onesIn, evPlan, recheck, H.new, H.put, fillF, fillAt, allOne, AV.one, setArgs, evRes, resOf, ofVal, ofVal0, isShift, ikBeq, TYC, lp, hty, hpl, h0, h1, h7, h8, hlen, ltI_f] at hx
    exact ⟨_, by rw [← hx]; rfl, by simp [hasS]⟩
  | c :: l, i, tm, h, x, hx, hd, hi, h0, h1, h7, h8 => by
    obtain ⟨hlt, hc, hd'⟩ := dcons hd
    have hat := strs_get hc
    obtain ⟨R, hR, hx⟩ := loop_step hx
    have hlt' := ltI_t hlt
    have hw := wr_succ (i := i) (by omega)
    cases hb : natsBeq v c.s with
    | true =>
      simp [b34_0, loopOf, Tryz.f34, loops, EVT, endL, evSeq, evOne, evAct, evOp, opKind, evPure, evRead, evNew, evWrite, evSlice, natOf, optVal, readAt, AV.cells, wantedA, putTm, val, allVals, evBin, evInt, evStr, evAppend, evMin, nilCmp, denseFrom, sizesAre, onesIn, evPlan, recheck, H.new, H.put, fillF, fillAt, allOne, AV.one, setArgs, evRes, resOf, ofVal, ofVal0, isShift, ikBeq, TYC, lp, hty, hpl, h0, h1, h7, h8, hlt', hat, hb, hw] at hx
      exact ⟨_, by rw [← hx]; simp [hasS, hb]; rfl, by simp [T.get_set_ite, idxS, hb]⟩
    | false =>
      simp [b34_0, loopOf, Tryz.f34, loops, EVT, endL, evSeq, evOne, evAct, evOp, opKind, evPure, evRead, evNew, evWrite, evSlice, natOf, optVal, readAt, AV.cells, wantedA, putTm, val, allVals, evBin, evInt, evStr, evAppend, evMin, nilCmp, denseFrom, sizesAre, onesIn, evPlan, recheck, H.new, H.put, fillF, fillAt, allOne, AV.one, setArgs, evRes, resOf, ofVal, ofVal0, isShift, ikBeq, TYC, lp, hty, hpl, h0, h1, h7, h8, hlt', hat, hb, hw] at hx
      rw [hR] at hx
      have e : hasS (c :: l) v = hasS l v := by simp [hasS, hb]
      have e2 : idxS v (c :: l) i = idxS v l (i + 1) := by simp [idxS, hb]
      rw [e, e2]
      exact loop34 hty hpl (o := o) (v := v) hl l (i + 1) hx hd' hlt (by simp [T.get_set_ite, h0]) (by simp [T.get_set_ite, h1]) (by simp [T.get_set_ite, h7]) (by simp [T.get_set_ite])
theorem index_run {E : Env} (hty : E.ty = env.ty) (hpl : E.plan = env.plan) (hp : E.prim 34 = none) (hfn : E.fns 34 = some Tryz.f34) (o : Own) (L : List Str) (v : List Nat) (hl : L.length ≤ 9223342036854775807) (h : H) : evL E 34 [.sl o (strs L), .str v] h = some (.int .i64 (idxS v L 0), h) := by
  have hil := strs_len L
  rw [evL_fn E hp hfn body34 _ _ rfl]
  simp only [codeAt, sub, Tryz.f34]
  simp [EVT, endL, evSeq, evOne, evAct, evOp, opKind, evPure, evRead, evNew, evWrite, evSlice, natOf, optVal, readAt, AV.cells, wantedA, putTm, val, allVals, evBin, evInt, evStr, evAppend, evMin, nilCmp, denseFrom, sizesAre, onesIn, evPlan, recheck, H.new, H.put, fillF, fillAt, allOne, AV.one, setArgs, evRes, resOf, ofVal, ofVal0, isShift, ikBeq, TYC, hty, hpl, hil]
  generalize hx : cdL E 34 19 (.loop b34_0) _ _ = x
  obtain ⟨tm', rfl, g⟩ := loop34 hty hpl (o := o) (v := v) hl L 0 hx rfl (Nat.zero_le _) (by simp [T.get_set_ite]) (by simp [T.get_set_ite]) (by simp [T.get_set_ite]) (by simp [T.get_set_ite])
  cases hb : hasS L v with
  | true => simp [EVT, endL, evSeq, evOne, evAct, evOp, opKind, evPure, evRead, evNew, evWrite, evSlice, natOf, optVal, readAt, AV.cells, wantedA, putTm, val, allVals, evBin, evInt, evStr, evAppend, evMin, nilCmp, denseFrom, sizesAre, onesIn, evPlan, recheck, H.new, H.put, fillF, fillAt, allOne, AV.one, setArgs, evRes, resOf, ofVal, ofVal0, isShift, ikBeq, TYC, hty, hpl, g hb]
  | false =>
    have : ∀ (l : List Str) (i : Nat), hasS l v = false → idxS v l i = -1 := by
      intro l
      induction l with
      | nil => intro i _; rfl
      | cons t l ih =>
        intro i hh
        simp only [hasS, List.any_cons, Bool.or_eq_false_iff] at hh
        simp only [idxS, hh.1, cond_false]
        exact ih (i + 1) hh.2
    rw [this L 0 hb]
    simp [EVT, endL, evSeq, evOne, evAct, evOp, opKind, evPure, evRead, evNew, evWrite, evSlice, natOf, optVal, readAt, AV.cells, wantedA, putTm, val, allVals, evBin, evInt, evStr, evAppend, evMin, nilCmp, denseFrom, sizesAre, onesIn, evPlan, recheck, H.new, H.put, fillF, fillAt, allOne, AV.one, setArgs, evRes, resOf, ofVal, ofVal0, isShift, ikBeq, TYC, hty, hpl]
/-- A string's number among a maker's strings; the strings behind it. -/
def strI (S : List Str) (s : List Nat) : Int := bif hasS S s then idxS s S 0 else ↑S.length
def strF (S : List Str) (s : List Nat) : List Str := bif hasS S s then S else S ++ [⟨s⟩]
theorem strs_app (a b : List Str) : strs (a ++ b) = strs a ++ strs b := by simp [strs]
theorem strs_sz (a : List Str) : sizesAre 1 (strs a) = true := by
  induction a with
  | nil => rfl
  | cons t l ih => simpa [strs, sizesAre, AV.cells] using ih
theorem body113 : Tryz.f113.body = some (codeAt Tryz.f113 []) := rfl
theorem str_run {E : Env} (hty : E.ty = env.ty) (hpl : E.plan = env.plan) (hp : E.prim 113 = none) (hp34 : E.prim 34 = none) (hfn : E.fns = env.fns) {m : Nat} {d fv : AV} {w : Go.Ev.Own} {S : List Str} {h : H} (hm : h.t.get m = some (.cells [d, fv, .sl w (strs S)])) (hmx : m < h.nx) (hr : RowE 9 1 h w (strs S)) (hl : S.length ≤ 1000000)
    (hd : d.one = true) (hfv : fv.one = true) (s : List Nat) :
    ∃ h' w', evL E 113 [.ptr (some (m, 0)), .str s] h = some (.int .i64 (strI S s), h') ∧ h'.t.get m = some (.cells [d, fv, .sl w' (strs (strF S s))]) ∧ RowE 9 1 h' w' (strs (strF S s)) ∧ h.nx ≤ h'.nx ∧ (∀ j, j < h.nx → j ≠ m → w ≠ .ch j → h'.t.get j = h.t.get j) ∧ ∀ j, w' = .ch j → w = .ch j ∨ h.nx ≤ j := by
  have hil := strs_len S
  have k34 := fun h => index_run (E := E) hty hpl hp34 (by rw [hfn]; kernel_rfl) w S s (by omega) h
  have hng := idxS_neg (v := s) (l := S) 0
  cases hs : hasS S s with
  | true =>
    rw [hs] at hng
    refine ⟨h, w, ?_, by simpa [strF, hs] using hm, by simpa [strF, hs] using hr, Nat.le_refl _, fun _ _ _ _ => rfl, fun j e => .inl e⟩
    rw [evL_fn E hp (by rw [hfn]; kernel_rfl) body113 _ _ rfl]
    simp only [codeAt, sub, Tryz.f113]
    simp [EVT, endL, evSeq, evOne, evAct, evOp, opKind, evPure, evRead, evNew, evWrite, evSlice, natOf, optVal, readAt, AV.cells, wantedA, putTm, val, allVals, evBin, evInt, evStr, evAppend, evMin, nilCmp, denseFrom, sizesAre, onesIn, evPlan, recheck, H.new, H.put, fillF, fillAt, allOne, AV.one, setArgs, evRes, resOf, ofVal, ofVal0, isShift, ikBeq, TYC, hty, hpl, hm, k34, hng, strI, hs]
  | false =>
    rw [hs] at hng
    obtain ⟨w', h2, k1, k2, k3, k4⟩ := app_any (e := 9) (sz := 1) (byt := 16) (ys := strs [⟨s⟩]) (by omega) (by omega) (strs_sz S) rfl rfl (by rw [hil]; simp [strs]; omega) hr
    have hm2 : h2.t.get m = some (.cells [d, fv, .sl w (strs S)]) := by rw [k4 m hmx (hr.ne hm)]; exact hm
    have hw' := own_app hr k1
    refine ⟨⟨h2.t.set m (.cells [d, fv, .sl w' (strs (S ++ [⟨s⟩]))]), h2.nx⟩, w', ?_, by simp only [strF, hs, cond_false]; exact T.get_set _ _ _, ?_, k3, fun j hj hne hwj => by rw [show (⟨h2.t.set m (.cells [d, fv, .sl w' (strs (S ++ [⟨s⟩]))]), h2.nx⟩ : H).t.get j = h2.t.get j from T.get_set_ne _ _ hne]; exact k4 j hj hwj, hw'⟩
    · rw [evL_fn E hp (by rw [hfn]; kernel_rfl) body113 _ _ rfl]
      simp only [codeAt, sub, Tryz.f113]
      rw [show strs [⟨s⟩] = [AV.str s] from rfl] at k1
      rw [strs_app, show strs [⟨s⟩] = [AV.str s] from rfl]
      simp [EVT, endL, evSeq, evOne, evAct, evOp, opKind, evPure, evRead, evNew, evWrite, evSlice, natOf, optVal, readAt, AV.cells, wantedA, putTm, val, allVals, evBin, evInt, evStr, evAppend, evMin, nilCmp, denseFrom, sizesAre, onesIn, evPlan, recheck, H.new, H.put, fillF, fillAt, allOne, AV.one, setArgs, evRes, resOf, ofVal, ofVal0, isShift, ikBeq, TYC, hty, hpl, hm, k34, hng, strI, hs, hil, k1, hm2, hd, hfv, -evAppend]
    · simp only [strF, hs, cond_false]
      rw [strs_app]
      rcases k2 with e | ⟨id, e, hg, hi⟩
      · exact .inl e
      · refine .inr ⟨id, e, ?_, hi⟩
        have : id ≠ m := by rintro rfl; rw [hm2] at hg; cases hg
        rw [show (⟨h2.t.set m (.cells [d, fv, .sl w' (strs S ++ strs [⟨s⟩])]), h2.nx⟩ : H).t.get id = h2.t.get id from T.get_set_ne _ _ this]
        exact hg
end Go.Proofs.YtogjplcnmibnlaaGreatDoor.Env
