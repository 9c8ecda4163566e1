/- How many kids an Op has. -/
import Derived.Test.YtogjplcnmibnlaaGreatDoorCTF
import Derived.Test.YtogjplcnmibnlaaGreatDoorCTM
import Derived.Test.YtogjplcnmibnlaaGreatDoorCTH
set_option autoImplicit false
set_option maxRecDepth 100000
set_option linter.unusedSimpArgs false
set_option linter.unusedVariables false
set_option linter.unusedSectionVars false
set_option maxHeartbeats 1000000
namespace Go.Proofs.YtogjplcnmibnlaaGreatDoor.Tr
open Go.Proofs.YtogjplcnmibnlaaGreatDoor.Env Go.Ev Go.Ev.Nd

def inO (o : List Nat) (l : List (List Nat)) : Bool := l.any fun x => natsBeq o x
def ops0 : List (List Nat) := [[105, 110, 116], [98, 111, 111, 108], [117, 110, 105, 116], [110, 105, 108], [115, 116, 114], [118, 97, 114]]
def ops1 : List (List Nat) := [[102, 117, 110], [114, 97, 105, 115, 101], [103, 101, 116], [102, 115, 116], [115, 110, 100], [114, 101, 102], [99, 101, 108, 108], [116, 97, 103], [108, 105, 110, 107, 115], [115, 105, 122, 101], [112, 114, 105, 110, 116]]
def ops2 : List (List Nat) := [[108, 101, 116], [114, 101, 99], [116, 114, 121], [115, 101, 113], [115, 101, 116], [101, 113], [108, 101, 115, 115], [99, 111, 110, 115], [97, 100, 100], [115, 117, 98], [99, 97, 116], [109, 117, 108], [97, 112, 112], [112, 97, 105, 114], [108, 105, 110, 107]]
def ops3 : List (List Nat) := [[105, 102], [109, 97, 116, 99, 104]]
def kidsF (o : List Nat) : Int := bif inO o ops0 then 0 else bif inO o ops1 then 1 else bif inO o ops2 then 2 else bif inO o ops3 then 3 else -1
theorem nb_no {a b : List Nat} (h : ¬ a = b) : natsBeq a b = false := by cases hb : natsBeq a b with | false => rfl | true => exact absurd (natsBeq_iff.1 hb) h
noncomputable abbrev pKids := primVal (ofRel (Rel1 (fun _ : Str => True) (fun s => kidsF s.s)))
theorem body32 : Tryz.f60.body = some (codeAt Tryz.f60 []) := rfl
theorem p32_ok : PrimOk Tryz.prog 60 pKids := prim1_ok env_ok (fn := Tryz.f60) (by kernel_rfl) body32 (by kernel_rfl) fun s _ => by
  obtain ⟨o⟩ := s
  show ∃ v' h1, bodyL env 60 Tryz.f60 (codeAt Tryz.f60 []) [.str o] ⟨.e, 0⟩ = some (v', h1) ∧ v'.wk 0 (.int .i64 (kidsF o))
  by_cases e1 : o = [105, 110, 116]
  · subst e1; exact ⟨.int .i64 0, ⟨.e, 0⟩, bodyL_of (by kernel_rfl) (by kernel_rfl) body32 rfl (evL_of env (k := 80) (by kernel_rfl)), by rw [show kidsF [105, 110, 116] = 0 from rfl]; simp [AV.wk]⟩
  by_cases e2 : o = [98, 111, 111, 108]
  · subst e2; exact ⟨.int .i64 0, ⟨.e, 0⟩, bodyL_of (by kernel_rfl) (by kernel_rfl) body32 rfl (evL_of env (k := 80) (by kernel_rfl)), by rw [show kidsF [98, 111, 111, 108] = 0 from rfl]; simp [AV.wk]⟩
  by_cases e3 : o = [117, 110, 105, 116]
  · subst e3; exact ⟨.int .i64 0, ⟨.e, 0⟩, bodyL_of (by kernel_rfl) (by kernel_rfl) body32 rfl (evL_of env (k := 80) (by kernel_rfl)), by rw [show kidsF [117, 110, 105, 116] = 0 from rfl]; simp [AV.wk]⟩
  by_cases e4 : o = [110, 105, 108]
  · subst e4; exact ⟨.int .i64 0, ⟨.e, 0⟩, bodyL_of (by kernel_rfl) (by kernel_rfl) body32 rfl (evL_of env (k := 80) (by kernel_rfl)), by rw [show kidsF [110, 105, 108] = 0 from rfl]; simp [AV.wk]⟩
  by_cases e5 : o = [115, 116, 114]
  · subst e5; exact ⟨.int .i64 0, ⟨.e, 0⟩, bodyL_of (by kernel_rfl) (by kernel_rfl) body32 rfl (evL_of env (k := 80) (by kernel_rfl)), by rw [show kidsF [115, 116, 114] = 0 from rfl]; simp [AV.wk]⟩
  by_cases e6 : o = [118, 97, 114]
  · subst e6; exact ⟨.int .i64 0, ⟨.e, 0⟩, bodyL_of (by kernel_rfl) (by kernel_rfl) body32 rfl (evL_of env (k := 80) (by kernel_rfl)), by rw [show kidsF [118, 97, 114] = 0 from rfl]; simp [AV.wk]⟩
  by_cases e7 : o = [102, 117, 110]
  · subst e7; exact ⟨.int .i64 1, ⟨.e, 0⟩, bodyL_of (by kernel_rfl) (by kernel_rfl) body32 rfl (evL_of env (k := 80) (by kernel_rfl)), by rw [show kidsF [102, 117, 110] = 1 from rfl]; simp [AV.wk]⟩
  by_cases e8 : o = [114, 97, 105, 115, 101]
  · subst e8; exact ⟨.int .i64 1, ⟨.e, 0⟩, bodyL_of (by kernel_rfl) (by kernel_rfl) body32 rfl (evL_of env (k := 80) (by kernel_rfl)), by rw [show kidsF [114, 97, 105, 115, 101] = 1 from rfl]; simp [AV.wk]⟩
  by_cases e9 : o = [103, 101, 116]
  · subst e9; exact ⟨.int .i64 1, ⟨.e, 0⟩, bodyL_of (by kernel_rfl) (by kernel_rfl) body32 rfl (evL_of env (k := 80) (by kernel_rfl)), by rw [show kidsF [103, 101, 116] = 1 from rfl]; simp [AV.wk]⟩
  by_cases e10 : o = [102, 115, 116]
  · subst e10; exact ⟨.int .i64 1, ⟨.e, 0⟩, bodyL_of (by kernel_rfl) (by kernel_rfl) body32 rfl (evL_of env (k := 80) (by kernel_rfl)), by rw [show kidsF [102, 115, 116] = 1 from rfl]; simp [AV.wk]⟩
  by_cases e11 : o = [115, 110, 100]
  · subst e11; exact ⟨.int .i64 1, ⟨.e, 0⟩, bodyL_of (by kernel_rfl) (by kernel_rfl) body32 rfl (evL_of env (k := 80) (by kernel_rfl)), by rw [show kidsF [115, 110, 100] = 1 from rfl]; simp [AV.wk]⟩
  by_cases e12 : o = [114, 101, 102]
  · subst e12; exact ⟨.int .i64 1, ⟨.e, 0⟩, bodyL_of (by kernel_rfl) (by kernel_rfl) body32 rfl (evL_of env (k := 80) (by kernel_rfl)), by rw [show kidsF [114, 101, 102] = 1 from rfl]; simp [AV.wk]⟩
  by_cases e13 : o = [99, 101, 108, 108]
  · subst e13; exact ⟨.int .i64 1, ⟨.e, 0⟩, bodyL_of (by kernel_rfl) (by kernel_rfl) body32 rfl (evL_of env (k := 80) (by kernel_rfl)), by rw [show kidsF [99, 101, 108, 108] = 1 from rfl]; simp [AV.wk]⟩
  by_cases e14 : o = [116, 97, 103]
  · subst e14; exact ⟨.int .i64 1, ⟨.e, 0⟩, bodyL_of (by kernel_rfl) (by kernel_rfl) body32 rfl (evL_of env (k := 80) (by kernel_rfl)), by rw [show kidsF [116, 97, 103] = 1 from rfl]; simp [AV.wk]⟩
  by_cases e15 : o = [108, 105, 110, 107, 115]
  · subst e15; exact ⟨.int .i64 1, ⟨.e, 0⟩, bodyL_of (by kernel_rfl) (by kernel_rfl) body32 rfl (evL_of env (k := 80) (by kernel_rfl)), by rw [show kidsF [108, 105, 110, 107, 115] = 1 from rfl]; simp [AV.wk]⟩
  by_cases e16 : o = [115, 105, 122, 101]
  · subst e16; exact ⟨.int .i64 1, ⟨.e, 0⟩, bodyL_of (by kernel_rfl) (by kernel_rfl) body32 rfl (evL_of env (k := 80) (by kernel_rfl)), by rw [show kidsF [115, 105, 122, 101] = 1 from rfl]; simp [AV.wk]⟩
  by_cases e17 : o = [112, 114, 105, 110, 116]
  · subst e17; exact ⟨.int .i64 1, ⟨.e, 0⟩, bodyL_of (by kernel_rfl) (by kernel_rfl) body32 rfl (evL_of env (k := 80) (by kernel_rfl)), by rw [show kidsF [112, 114, 105, 110, 116] = 1 from rfl]; simp [AV.wk]⟩
  by_cases e18 : o = [108, 101, 116]
  · subst e18; exact ⟨.int .i64 2, ⟨.e, 0⟩, bodyL_of (by kernel_rfl) (by kernel_rfl) body32 rfl (evL_of env (k := 80) (by kernel_rfl)), by rw [show kidsF [108, 101, 116] = 2 from rfl]; simp [AV.wk]⟩
  by_cases e19 : o = [114, 101, 99]
  · subst e19; exact ⟨.int .i64 2, ⟨.e, 0⟩, bodyL_of (by kernel_rfl) (by kernel_rfl) body32 rfl (evL_of env (k := 80) (by kernel_rfl)), by rw [show kidsF [114, 101, 99] = 2 from rfl]; simp [AV.wk]⟩
  by_cases e20 : o = [116, 114, 121]
  · subst e20; exact ⟨.int .i64 2, ⟨.e, 0⟩, bodyL_of (by kernel_rfl) (by kernel_rfl) body32 rfl (evL_of env (k := 80) (by kernel_rfl)), by rw [show kidsF [116, 114, 121] = 2 from rfl]; simp [AV.wk]⟩
  by_cases e21 : o = [115, 101, 113]
  · subst e21; exact ⟨.int .i64 2, ⟨.e, 0⟩, bodyL_of (by kernel_rfl) (by kernel_rfl) body32 rfl (evL_of env (k := 80) (by kernel_rfl)), by rw [show kidsF [115, 101, 113] = 2 from rfl]; simp [AV.wk]⟩
  by_cases e22 : o = [115, 101, 116]
  · subst e22; exact ⟨.int .i64 2, ⟨.e, 0⟩, bodyL_of (by kernel_rfl) (by kernel_rfl) body32 rfl (evL_of env (k := 80) (by kernel_rfl)), by rw [show kidsF [115, 101, 116] = 2 from rfl]; simp [AV.wk]⟩
  by_cases e23 : o = [101, 113]
  · subst e23; exact ⟨.int .i64 2, ⟨.e, 0⟩, bodyL_of (by kernel_rfl) (by kernel_rfl) body32 rfl (evL_of env (k := 80) (by kernel_rfl)), by rw [show kidsF [101, 113] = 2 from rfl]; simp [AV.wk]⟩
  by_cases e24 : o = [108, 101, 115, 115]
  · subst e24; exact ⟨.int .i64 2, ⟨.e, 0⟩, bodyL_of (by kernel_rfl) (by kernel_rfl) body32 rfl (evL_of env (k := 80) (by kernel_rfl)), by rw [show kidsF [108, 101, 115, 115] = 2 from rfl]; simp [AV.wk]⟩
  by_cases e25 : o = [99, 111, 110, 115]
  · subst e25; exact ⟨.int .i64 2, ⟨.e, 0⟩, bodyL_of (by kernel_rfl) (by kernel_rfl) body32 rfl (evL_of env (k := 80) (by kernel_rfl)), by rw [show kidsF [99, 111, 110, 115] = 2 from rfl]; simp [AV.wk]⟩
  by_cases e26 : o = [97, 100, 100]
  · subst e26; exact ⟨.int .i64 2, ⟨.e, 0⟩, bodyL_of (by kernel_rfl) (by kernel_rfl) body32 rfl (evL_of env (k := 80) (by kernel_rfl)), by rw [show kidsF [97, 100, 100] = 2 from rfl]; simp [AV.wk]⟩
  by_cases e27 : o = [115, 117, 98]
  · subst e27; exact ⟨.int .i64 2, ⟨.e, 0⟩, bodyL_of (by kernel_rfl) (by kernel_rfl) body32 rfl (evL_of env (k := 80) (by kernel_rfl)), by rw [show kidsF [115, 117, 98] = 2 from rfl]; simp [AV.wk]⟩
  by_cases e28 : o = [99, 97, 116]
  · subst e28; exact ⟨.int .i64 2, ⟨.e, 0⟩, bodyL_of (by kernel_rfl) (by kernel_rfl) body32 rfl (evL_of env (k := 80) (by kernel_rfl)), by rw [show kidsF [99, 97, 116] = 2 from rfl]; simp [AV.wk]⟩
  by_cases e29 : o = [109, 117, 108]
  · subst e29; exact ⟨.int .i64 2, ⟨.e, 0⟩, bodyL_of (by kernel_rfl) (by kernel_rfl) body32 rfl (evL_of env (k := 80) (by kernel_rfl)), by rw [show kidsF [109, 117, 108] = 2 from rfl]; simp [AV.wk]⟩
  by_cases e30 : o = [97, 112, 112]
  · subst e30; exact ⟨.int .i64 2, ⟨.e, 0⟩, bodyL_of (by kernel_rfl) (by kernel_rfl) body32 rfl (evL_of env (k := 80) (by kernel_rfl)), by rw [show kidsF [97, 112, 112] = 2 from rfl]; simp [AV.wk]⟩
  by_cases e31 : o = [112, 97, 105, 114]
  · subst e31; exact ⟨.int .i64 2, ⟨.e, 0⟩, bodyL_of (by kernel_rfl) (by kernel_rfl) body32 rfl (evL_of env (k := 80) (by kernel_rfl)), by rw [show kidsF [112, 97, 105, 114] = 2 from rfl]; simp [AV.wk]⟩
  by_cases e32 : o = [108, 105, 110, 107]
  · subst e32; exact ⟨.int .i64 2, ⟨.e, 0⟩, bodyL_of (by kernel_rfl) (by kernel_rfl) body32 rfl (evL_of env (k := 80) (by kernel_rfl)), by rw [show kidsF [108, 105, 110, 107] = 2 from rfl]; simp [AV.wk]⟩
  by_cases e33 : o = [105, 102]
  · subst e33; exact ⟨.int .i64 3, ⟨.e, 0⟩, bodyL_of (by kernel_rfl) (by kernel_rfl) body32 rfl (evL_of env (k := 80) (by kernel_rfl)), by rw [show kidsF [105, 102] = 3 from rfl]; simp [AV.wk]⟩
  by_cases e34 : o = [109, 97, 116, 99, 104]
  · subst e34; exact ⟨.int .i64 3, ⟨.e, 0⟩, bodyL_of (by kernel_rfl) (by kernel_rfl) body32 rfl (evL_of env (k := 80) (by kernel_rfl)), by rw [show kidsF [109, 97, 116, 99, 104] = 3 from rfl]; simp [AV.wk]⟩
  replace e1 := nb_no e1
  replace e2 := nb_no e2
  replace e3 := nb_no e3
  replace e4 := nb_no e4
  replace e5 := nb_no e5
  replace e6 := nb_no e6
  replace e7 := nb_no e7
  replace e8 := nb_no e8
  replace e9 := nb_no e9
  replace e10 := nb_no e10
  replace e11 := nb_no e11
  replace e12 := nb_no e12
  replace e13 := nb_no e13
  replace e14 := nb_no e14
  replace e15 := nb_no e15
  replace e16 := nb_no e16
  replace e17 := nb_no e17
  replace e18 := nb_no e18
  replace e19 := nb_no e19
  replace e20 := nb_no e20
  replace e21 := nb_no e21
  replace e22 := nb_no e22
  replace e23 := nb_no e23
  replace e24 := nb_no e24
  replace e25 := nb_no e25
  replace e26 := nb_no e26
  replace e27 := nb_no e27
  replace e28 := nb_no e28
  replace e29 := nb_no e29
  replace e30 := nb_no e30
  replace e31 := nb_no e31
  replace e32 := nb_no e32
  replace e33 := nb_no e33
  replace e34 := nb_no e34
  have hk : kidsF o = -1 := by simp [kidsF, inO, ops0, ops1, ops2, ops3, e1, e2, e3, e4, e5, e6, e7, e8, e9, e10, e11, e12, e13, e14, e15, e16, e17, e18, e19, e20, e21, e22, e23, e24, e25, e26, e27, e28, e29, e30, e31, e32, e33, e34]
  rw [hk]
  unfold bodyL
  simp only [codeAt, sub, Tryz.f60]
  simp [EVT, endL, evSeq, evOne, evAct, evOp, opKind, evPure, evRead, evNew, evWrite, evSlice, natOf, optVal, readAt, AV.cells, wantedA, putTm, val, allVals, evBin, evInt, evStr, evAppend, evMin, nilCmp, denseFrom, sizesAre, onesIn, evPlan, recheck, H.new, H.put, fillF, fillAt, allOne, AV.one, setArgs, evRes, resOf, ofVal, ofVal0, isShift, ikBeq, TYC, bytesOf, AV.wk, e1, e2, e3, e4, e5, e6, e7, e8, e9, e10, e11, e12, e13, e14, e15, e16, e17, e18, e19, e20, e21, e22, e23, e24, e25, e26, e27, e28, e29, e30, e31, e32, e33, e34]
end Go.Proofs.YtogjplcnmibnlaaGreatDoor.Tr
/- The reference's names of a node; each; Is. -/
set_option maxHeartbeats 2000000
namespace Go.Proofs.YtogjplcnmibnlaaGreatDoor.Tr
open Go.Proofs.YtogjplcnmibnlaaGreatDoor.Env Go.Ev Go.Ev.Nd Go.Proofs.YtogjplcnmibnlaaGreatDoor.Lx

def strS : List Nat := [115, 116, 114]
def intS : List Nat := [105, 110, 116]
def boolS : List Nat := [98, 111, 111, 108]
def namA (o p : List Nat) : Bool := bif natsBeq o varS || (natsBeq o funS || (natsBeq o letS || natsBeq o tryS)) then nameF p else bif natsBeq o recS || natsBeq o matchS then nameF p else bif natsBeq o strS then okT p else natsBeq p []
def namB (o q : List Nat) : Bool := bif natsBeq o recS || natsBeq o matchS then nameF q else natsBeq q []
def namN (o : List Nat) (n : Int) : Bool := bif natsBeq o intS then !ltI n 0 && !ltI 999999999999999999 n else bif natsBeq o boolS then intBeq n 0 || intBeq n 1 else intBeq n 0
def namesR (t : Nd) : Bool := namA t.op t.name && (namB t.op t.arg && namN t.op t.n)
noncomputable abbrev pNm := primPure (pS lenOk fun s => .bool (nameF s))
noncomputable abbrev pTx := primPure (pS lenOk fun s => .bool (okT s))
theorem p43_ok : PrimOk Tryz.prog 98 pTx := pS_ok env7_ok Tryz.func98 (by kernel_rfl) (by kernel_rfl) fun s hs => ⟨rtext_run s (by have := lenOk_iff.1 hs; omega), rfl, rfl⟩
noncomputable abbrev pNamesR := primVal (ofRel (Rel1 fit namesR))
noncomputable abbrev e4243 : Env := addPrim (addPrim env 97 pNm) 98 pTx
theorem e4243_ok : EnvOk Tryz.prog e4243 := addPrim_ok (addPrim_ok env_ok p42_ok) p43_ok
theorem body33 : Tryz.f61.body = some (codeAt Tryz.f61 []) := rfl
theorem lenOk_of {s : List Nat} (h : okS s) : lenOk s = true := lenOk_iff.2 (by have := h.1; omega)
theorem p33_ok : PrimOk Tryz.prog 61 pNamesR := prim1_ok e4243_ok (fn := Tryz.f61) (by kernel_rfl) body33 (by kernel_rfl) fun t hf => by
  obtain ⟨o, p, q, n, a, ks⟩ := t
  simp only [fit] at hf
  have k42p := fun h => pS_call (E := e4243) (f := 97) (r := fun s => .bool (nameF s)) (by kernel_rfl) h p (lenOk_of hf.2.1)
  have k42q := fun h => pS_call (E := e4243) (f := 97) (r := fun s => .bool (nameF s)) (by kernel_rfl) h q (lenOk_of hf.2.2.1)
  have k43 := fun h => pS_call (E := e4243) (f := 98) (r := fun s => .bool (okT s)) (by kernel_rfl) h p (lenOk_of hf.2.1)
  have hty : e4243.ty = env.ty := rfl
  have hpl : e4243.plan = env.plan := rfl
  show ∃ v' h1, bodyL e4243 61 Tryz.f61 (codeAt Tryz.f61 []) [(Nd.mk o p q n a ks).av] ⟨.e, 0⟩ = some (v', h1) ∧ v'.wk 0 (.bool (namesR (.mk o p q n a ks)))
  unfold bodyL namesR namA namB namN
  simp only [codeAt, sub, Tryz.f61, Nd.op, Nd.name, Nd.arg, Nd.n, Nd.av]
  generalize nameF p = np at *
  generalize nameF q = nq at *
  generalize okT p = tp at *
  generalize hp0 : natsBeq p [] = p0 at *
  generalize hq0 : natsBeq q [] = q0 at *
  by_cases e1 : o = varS
  · subst e1; cases np <;> cases q0 <;> cases h3 : intBeq n 0 <;> simp [EVT, endL, evSeq, evOne, evAct, evOp, opKind, evPure, evRead, evNew, evWrite, evSlice, natOf, optVal, readAt, AV.cells, wantedA, putTm, val, allVals, evBin, evInt, evStr, evAppend, evMin, nilCmp, denseFrom, sizesAre, onesIn, evPlan, recheck, H.new, H.put, fillF, fillAt, allOne, AV.one, setArgs, evRes, resOf, ofVal, ofVal0, isShift, ikBeq, TYC, hty, hpl, natsBeq, bytesOf, varS, funS, letS, tryS, recS, matchS, strS, intS, boolS, k42p, k42q, k43, hp0, hq0, h3, AV.wk]
  by_cases e2 : o = funS
  · subst e2; cases np <;> cases q0 <;> cases h3 : intBeq n 0 <;> simp [EVT, endL, evSeq, evOne, evAct, evOp, opKind, evPure, evRead, evNew, evWrite, evSlice, natOf, optVal, readAt, AV.cells, wantedA, putTm, val, allVals, evBin, evInt, evStr, evAppend, evMin, nilCmp, denseFrom, sizesAre, onesIn, evPlan, recheck, H.new, H.put, fillF, fillAt, allOne, AV.one, setArgs, evRes, resOf, ofVal, ofVal0, isShift, ikBeq, TYC, hty, hpl, natsBeq, bytesOf, varS, funS, letS, tryS, recS, matchS, strS, intS, boolS, k42p, k42q, k43, hp0, hq0, h3, AV.wk]
  by_cases e3 : o = letS
  · subst e3; cases np <;> cases q0 <;> cases h3 : intBeq n 0 <;> simp [EVT, endL, evSeq, evOne, evAct, evOp, opKind, evPure, evRead, evNew, evWrite, evSlice, natOf, optVal, readAt, AV.cells, wantedA, putTm, val, allVals, evBin, evInt, evStr, evAppend, evMin, nilCmp, denseFrom, sizesAre, onesIn, evPlan, recheck, H.new, H.put, fillF, fillAt, allOne, AV.one, setArgs, evRes, resOf, ofVal, ofVal0, isShift, ikBeq, TYC, hty, hpl, natsBeq, bytesOf, varS, funS, letS, tryS, recS, matchS, strS, intS, boolS, k42p, k42q, k43, hp0, hq0, h3, AV.wk]
  by_cases e4 : o = tryS
  · subst e4; cases np <;> cases q0 <;> cases h3 : intBeq n 0 <;> simp [EVT, endL, evSeq, evOne, evAct, evOp, opKind, evPure, evRead, evNew, evWrite, evSlice, natOf, optVal, readAt, AV.cells, wantedA, putTm, val, allVals, evBin, evInt, evStr, evAppend, evMin, nilCmp, denseFrom, sizesAre, onesIn, evPlan, recheck, H.new, H.put, fillF, fillAt, allOne, AV.one, setArgs, evRes, resOf, ofVal, ofVal0, isShift, ikBeq, TYC, hty, hpl, natsBeq, bytesOf, varS, funS, letS, tryS, recS, matchS, strS, intS, boolS, k42p, k42q, k43, hp0, hq0, h3, AV.wk]
  by_cases e5 : o = recS
  · subst e5; cases np <;> cases nq <;> cases h3 : intBeq n 0 <;> simp [EVT, endL, evSeq, evOne, evAct, evOp, opKind, evPure, evRead, evNew, evWrite, evSlice, natOf, optVal, readAt, AV.cells, wantedA, putTm, val, allVals, evBin, evInt, evStr, evAppend, evMin, nilCmp, denseFrom, sizesAre, onesIn, evPlan, recheck, H.new, H.put, fillF, fillAt, allOne, AV.one, setArgs, evRes, resOf, ofVal, ofVal0, isShift, ikBeq, TYC, hty, hpl, natsBeq, bytesOf, varS, funS, letS, tryS, recS, matchS, strS, intS, boolS, k42p, k42q, k43, hp0, hq0, h3, AV.wk]
  by_cases e6 : o = matchS
  · subst e6; cases np <;> cases nq <;> cases h3 : intBeq n 0 <;> simp [EVT, endL, evSeq, evOne, evAct, evOp, opKind, evPure, evRead, evNew, evWrite, evSlice, natOf, optVal, readAt, AV.cells, wantedA, putTm, val, allVals, evBin, evInt, evStr, evAppend, evMin, nilCmp, denseFrom, sizesAre, onesIn, evPlan, recheck, H.new, H.put, fillF, fillAt, allOne, AV.one, setArgs, evRes, resOf, ofVal, ofVal0, isShift, ikBeq, TYC, hty, hpl, natsBeq, bytesOf, varS, funS, letS, tryS, recS, matchS, strS, intS, boolS, k42p, k42q, k43, hp0, hq0, h3, AV.wk]
  by_cases e7 : o = strS
  · subst e7; cases tp <;> cases q0 <;> cases h3 : intBeq n 0 <;> simp [EVT, endL, evSeq, evOne, evAct, evOp, opKind, evPure, evRead, evNew, evWrite, evSlice, natOf, optVal, readAt, AV.cells, wantedA, putTm, val, allVals, evBin, evInt, evStr, evAppend, evMin, nilCmp, denseFrom, sizesAre, onesIn, evPlan, recheck, H.new, H.put, fillF, fillAt, allOne, AV.one, setArgs, evRes, resOf, ofVal, ofVal0, isShift, ikBeq, TYC, hty, hpl, natsBeq, bytesOf, varS, funS, letS, tryS, recS, matchS, strS, intS, boolS, k42p, k42q, k43, hp0, hq0, h3, AV.wk]
  by_cases e8 : o = intS
  · subst e8; cases p0 <;> cases q0 <;> cases h3 : ltI n 0 <;> cases h4 : ltI 999999999999999999 n <;> simp [EVT, endL, evSeq, evOne, evAct, evOp, opKind, evPure, evRead, evNew, evWrite, evSlice, natOf, optVal, readAt, AV.cells, wantedA, putTm, val, allVals, evBin, evInt, evStr, evAppend, evMin, nilCmp, denseFrom, sizesAre, onesIn, evPlan, recheck, H.new, H.put, fillF, fillAt, allOne, AV.one, setArgs, evRes, resOf, ofVal, ofVal0, isShift, ikBeq, TYC, hty, hpl, natsBeq, bytesOf, varS, funS, letS, tryS, recS, matchS, strS, intS, boolS, k42p, k42q, k43, hp0, hq0, h3, h4, AV.wk]
  by_cases e9 : o = boolS
  · subst e9; cases p0 <;> cases q0 <;> cases h3 : intBeq n 0 <;> cases h4 : intBeq n 1 <;> simp [EVT, endL, evSeq, evOne, evAct, evOp, opKind, evPure, evRead, evNew, evWrite, evSlice, natOf, optVal, readAt, AV.cells, wantedA, putTm, val, allVals, evBin, evInt, evStr, evAppend, evMin, nilCmp, denseFrom, sizesAre, onesIn, evPlan, recheck, H.new, H.put, fillF, fillAt, allOne, AV.one, setArgs, evRes, resOf, ofVal, ofVal0, isShift, ikBeq, TYC, hty, hpl, natsBeq, bytesOf, varS, funS, letS, tryS, recS, matchS, strS, intS, boolS, k42p, k42q, k43, hp0, hq0, h3, h4, AV.wk]
  replace e1 := nb_no e1
  replace e2 := nb_no e2
  replace e3 := nb_no e3
  replace e4 := nb_no e4
  replace e5 := nb_no e5
  replace e6 := nb_no e6
  replace e7 := nb_no e7
  replace e8 := nb_no e8
  replace e9 := nb_no e9
  simp only [varS, funS, letS, tryS, recS, matchS, strS, intS, boolS] at e1 e2 e3 e4 e5 e6 e7 e8 e9
  cases p0 <;> cases q0 <;> cases h3 : intBeq n 0 <;> simp [EVT, endL, evSeq, evOne, evAct, evOp, opKind, evPure, evRead, evNew, evWrite, evSlice, natOf, optVal, readAt, AV.cells, wantedA, putTm, val, allVals, evBin, evInt, evStr, evAppend, evMin, nilCmp, denseFrom, sizesAre, onesIn, evPlan, recheck, H.new, H.put, fillF, fillAt, allOne, AV.one, setArgs, evRes, resOf, ofVal, ofVal0, isShift, ikBeq, TYC, hty, hpl, bytesOf, varS, funS, letS, tryS, recS, matchS, strS, intS, boolS, e1, e2, e3, e4, e5, e6, e7, e8, e9, hp0, hq0, h3, AV.wk]
end Go.Proofs.YtogjplcnmibnlaaGreatDoor.Tr
/- The reference's each and Is. -/
set_option maxHeartbeats 1000000
namespace Go.Proofs.YtogjplcnmibnlaaGreatDoor.Tr
open Go.Proofs.YtogjplcnmibnlaaGreatDoor.Env Go.Ev Go.Ev.Nd

mutual
def eachF : Nd → Bool
  | .mk o p q n a ks => intBeq (kidsF o) ↑ks.length && (namesR (.mk o p q n a ks) && eachL ks)
def eachL : List Nd → Bool
  | [] => true
  | t :: l => eachF t && eachL l
end
theorem eachF_eq (t : Nd) : eachF t = (intBeq (kidsF t.op) ↑t.kids.length && (namesR t && eachL t.kids)) := by cases t; rfl
theorem eachL_iff : ∀ {l : List Nd}, eachL l = true ↔ ∀ t ∈ l, eachF t = true
  | [] => by simp [eachL]
  | t :: l => by simp [eachL, eachL_iff (l := l)]
noncomputable def b20_0 : Code := loopOf Tryz.f32 0
theorem body20 : Tryz.f32.body = some (.seq (codeAt Tryz.f32 [0]) (.seq (codeAt Tryz.f32 [1, 0]) (.seq (.seq (codeAt Tryz.f32 [1, 1, 0, 0]) (.block 0 (.loop b20_0))) (codeAt Tryz.f32 [1, 1, 1])))) := rfl
theorem loop20 {E : Env} (hty : E.ty = env.ty) (hpl : E.plan = env.plan) {c0 c1 c2 c3 c4 : AV} {ks : List Nd} {d : Nat} (hl : ks.length ≤ 9223372036854775807) (hf : fits ks) (hd : deps ks ≤ d)
    (hc : ∀ t h, dep t ≤ d → fit t → evL E 32 [t.av] h = some (.bool (eachF t), h)) :
    ∀ (l : List Nd) (i : Nat) {tm : Tm} {h : H} {x : Option (Ex × Tm × H)}, cdL E 32 30 (.loop b20_0) tm h = x → l = ks.drop i → i ≤ ks.length →
    tm.get 1 = some (.ptr (some (0, 0))) → tm.get 3 = some (.int .i64 ↑i) → h.t.get 0 = some (.cells [c0, c1, c2, c3, c4, .sl .no (avs ks)]) →
    ∃ tm', x = some (bif eachL l then .exit 0 else .ret, tm', h) ∧ (eachL l = false → tm'.get 2 = some (.bool false))
  | [], i, tm, h, x, hx, hd, hi, h1, h3, hz => by
    have hlen := dnil hd hi
    have hl2 := avs_len ks
    rw [hlen] at hl2
    obtain ⟨R, hR, hx⟩ := loop_step hx
    simp [b20_0, loopOf, Tryz.f32, loops, EVT, endL, evSeq, evOne, evAct, evOp, opKind, evPure, evRead, evNew, evWrite, evSlice, natOf, optVal, readAt, AV.cells, wantedA, putTm, val, allVals, evBin, evInt, evStr, evAppend, evMin, nilCmp, denseFrom, sizesAre, onesIn, evPlan, recheck, H.new, H.put, fillF, fillAt, allOne, AV.one, setArgs, evRes, resOf, ofVal, ofVal0, isShift, ikBeq, TYC, lp, hty, hpl, h1, h3, hz, hl2, ltI_f] at hx
    exact ⟨_, by rw [← hx]; rfl, fun e => by simp [eachL] at e⟩
  | t :: l, i, tm, h, x, hx, hdr, hi, h1, h3, hz => by
    obtain ⟨hlt, hct, hd'⟩ := dcons hdr
    have hl2 := avs_len ks
    have hat := avs_get hct
    have htm := List.mem_of_getElem? hct
    obtain ⟨R, hR, hx⟩ := loop_step hx
    have hlt' := ltI_t hlt
    have hw := wr_succ (i := i) (by omega)
    have hcall := fun h => hc t h (Nat.le_trans (dep_mem htm) hd) (fits_mem.1 hf t htm)
    obtain ⟨a0, a1, a2, a3, a4, a5, ha⟩ := nd_cells t
    rw [ha] at hat hcall
    simp only [eachL]
    cases hb : eachF t with
    | false =>
      simp [b20_0, loopOf, Tryz.f32, loops, EVT, endL, evSeq, evOne, evAct, evOp, opKind, evPure, evRead, evNew, evWrite, evSlice, natOf, optVal, readAt, AV.cells, wantedA, putTm, val, allVals, evBin, evInt, evStr, evAppend, evMin, nilCmp, denseFrom, sizesAre, onesIn, evPlan, recheck, H.new, H.put, fillF, fillAt, allOne, AV.one, setArgs, evRes, resOf, ofVal, ofVal0, isShift, ikBeq, TYC, lp, hty, hpl, h1, h3, hz, hl2, hlt', hat, hcall, hb] at hx
      exact ⟨_, by rw [← hx]; rfl, fun _ => by simp [T.get_set_ite]⟩
    | true =>
      simp [b20_0, loopOf, Tryz.f32, loops, EVT, endL, evSeq, evOne, evAct, evOp, opKind, evPure, evRead, evNew, evWrite, evSlice, natOf, optVal, readAt, AV.cells, wantedA, putTm, val, allVals, evBin, evInt, evStr, evAppend, evMin, nilCmp, denseFrom, sizesAre, onesIn, evPlan, recheck, H.new, H.put, fillF, fillAt, allOne, AV.one, setArgs, evRes, resOf, ofVal, ofVal0, isShift, ikBeq, TYC, lp, hty, hpl, h1, h3, hz, hl2, hlt', hat, hcall, hb, hw] at hx
      rw [hR] at hx
      simp only [Bool.true_and]
      exact loop20 hty hpl hl hf hd hc l (i + 1) hx hd' hlt (by simp [T.get_set_ite, h1]) (by simp [T.get_set_ite]) hz
def qEa (d : Nat) (t : Nd) : Prop := dep t ≤ d ∧ fit t
noncomputable abbrev pdEa (d : Nat) := primVal (ofRel (Rel1 (qEa d) eachF))
noncomputable abbrev pEach := primVal (ofRel (Rel1 fit eachF))
noncomputable abbrev eEa : Env := addPrim (addPrim env 60 pKids) 61 pNamesR
theorem eEa_ok : EnvOk Tryz.prog eEa := addPrim_ok (addPrim_ok env_ok p32_ok) p33_ok
theorem pd20_ok : ∀ d, PrimOk Tryz.prog 32 (pdEa d) := prim_rec eEa_ok (prim_none Tryz.func32 (by kernel_rfl) (by kernel_rfl) (prim_empty1 fun a h => by have := dep_pos a; have := h.1; omega)) fun d hE => by
  refine prim1_ok hE (fn := Tryz.f32) (by kernel_rfl) body20 (by kernel_rfl) fun t hq => ?_
  obtain ⟨hdp, hf⟩ := hq
  have hcall : ∀ t h, dep t ≤ d → fit t → evL (addPrim eEa 32 (pdEa d)) 32 [t.av] h = some (.bool (eachF t), h) := fun t h h1 h2 =>
    prim1_call (a := t) (F := eachF) (q := qEa d) (by kernel_rfl) (Enc.bare 0 t) ⟨h1, h2⟩ h
  have k32 : ∀ o h, evL (addPrim eEa 32 (pdEa d)) 60 [.str o] h = some (.int .i64 (kidsF o), h) := fun o h =>
    prim1_call (a := (⟨o⟩ : Str)) (F := fun s : Str => kidsF s.s) (q := fun _ => True) (by kernel_rfl) (Enc.bare 0 (⟨o⟩ : Str)) trivial h
  have k33 : ∀ h, evL (addPrim eEa 32 (pdEa d)) 61 [t.av] h = some (.bool (namesR t), h) := fun h =>
    prim1_call (a := t) (F := namesR) (q := fit) (by kernel_rfl) (Enc.bare 0 t) hf h
  have hty : (addPrim eEa 32 (pdEa d)).ty = env.ty := rfl
  have hpl : (addPrim eEa 32 (pdEa d)).plan = env.plan := rfl
  generalize addPrim eEa 32 (pdEa d) = E at *
  obtain ⟨o, p, q, n, a, ks⟩ := t
  simp only [dep] at hdp
  simp only [fit] at hf
  have hl2 := avs_len ks
  rw [show (Enc.enc (Nd.mk o p q n a ks) : AV) = (Nd.mk o p q n a ks).av from rfl]
  simp only [eachF]
  generalize namesR (.mk o p q n a ks) = nr at *
  simp only [Nd.av] at k33 ⊢
  unfold bodyL
  simp only [codeAt, sub, Tryz.f32]
  cases hk : intBeq (kidsF o) ↑ks.length with
  | false => simp [EVT, endL, evSeq, evOne, evAct, evOp, opKind, evPure, evRead, evNew, evWrite, evSlice, natOf, optVal, readAt, AV.cells, wantedA, putTm, val, allVals, evBin, evInt, evStr, evAppend, evMin, nilCmp, denseFrom, sizesAre, onesIn, evPlan, recheck, H.new, H.put, fillF, fillAt, allOne, AV.one, setArgs, evRes, resOf, ofVal, ofVal0, isShift, ikBeq, TYC, hty, hpl, k32, hl2, hk, AV.wk, Enc.enc]
  | true =>
    cases nr with
    | false => simp [EVT, endL, evSeq, evOne, evAct, evOp, opKind, evPure, evRead, evNew, evWrite, evSlice, natOf, optVal, readAt, AV.cells, wantedA, putTm, val, allVals, evBin, evInt, evStr, evAppend, evMin, nilCmp, denseFrom, sizesAre, onesIn, evPlan, recheck, H.new, H.put, fillF, fillAt, allOne, AV.one, setArgs, evRes, resOf, ofVal, ofVal0, isShift, ikBeq, TYC, hty, hpl, k32, k33, hl2, hk, AV.wk, Enc.enc]
    | true =>
      simp [EVT, endL, evSeq, evOne, evAct, evOp, opKind, evPure, evRead, evNew, evWrite, evSlice, natOf, optVal, readAt, AV.cells, wantedA, putTm, val, allVals, evBin, evInt, evStr, evAppend, evMin, nilCmp, denseFrom, sizesAre, onesIn, evPlan, recheck, H.new, H.put, fillF, fillAt, allOne, AV.one, setArgs, evRes, resOf, ofVal, ofVal0, isShift, ikBeq, TYC, hty, hpl, k32, k33, hl2, hk]
      generalize hx : cdL E 32 30 (.loop b20_0) _ _ = x
      obtain ⟨tm', rfl, g5⟩ := loop20 hty hpl (c0 := .str o) (c1 := .str p) (c2 := .str q) (c3 := .int .i64 n) (c4 := .int .i64 a) (ks := ks) (d := d) hf.2.2.2.2.2.1 hf.2.2.2.2.2.2 (by omega) hcall ks 0 hx rfl (Nat.zero_le _) (by simp [T.get_set_ite]) (by simp [T.get_set_ite]) (by simp [T.get_set_ite])
      cases he : eachL ks with
      | false => simp [EVT, endL, evSeq, evOne, evAct, evOp, opKind, evPure, evRead, evNew, evWrite, evSlice, natOf, optVal, readAt, AV.cells, wantedA, putTm, val, allVals, evBin, evInt, evStr, evAppend, evMin, nilCmp, denseFrom, sizesAre, onesIn, evPlan, recheck, H.new, H.put, fillF, fillAt, allOne, AV.one, setArgs, evRes, resOf, ofVal, ofVal0, isShift, ikBeq, TYC, hty, hpl, g5 he, AV.wk, Enc.enc]
      | true => simp [EVT, endL, evSeq, evOne, evAct, evOp, opKind, evPure, evRead, evNew, evWrite, evSlice, natOf, optVal, readAt, AV.cells, wantedA, putTm, val, allVals, evBin, evInt, evStr, evAppend, evMin, nilCmp, denseFrom, sizesAre, onesIn, evPlan, recheck, H.new, H.put, fillF, fillAt, allOne, AV.one, setArgs, evRes, resOf, ofVal, ofVal0, isShift, ikBeq, TYC, hty, hpl, AV.wk, Enc.enc]
theorem p20_ok : PrimOk Tryz.prog 32 pEach := prim_union pd20_ok (union1 fun a h => ⟨dep a, Nat.le_refl _, h⟩)
/-- Is. -/
def isR (t : Nd) : Bool := bif ltI 2000 (sizeF t) then false else eachF t
noncomputable abbrev pIsR := primVal (ofRel (Rel1 fit isR))
noncomputable abbrev e720 : Env := addPrim (addPrim env 7 pSize) 32 pEach
theorem e720_ok : EnvOk Tryz.prog e720 := addPrim_ok (addPrim_ok env_ok p7_ok) p20_ok
theorem p8_ok : PrimOk Tryz.prog 14 pIsR := prim1_ok e720_ok (fn := Tryz.f14) (by kernel_rfl) rfl (by kernel_rfl) fun t hf => by
  have k7 : ∀ h, evL e720 7 [t.av] h = some (.int .i64 (sizeF t), h) := fun h => prim1_call (a := t) (F := sizeF) (q := fit) (by kernel_rfl) (Enc.bare 0 t) hf h
  have k20 : ∀ h, evL e720 32 [t.av] h = some (.bool (eachF t), h) := fun h => prim1_call (a := t) (F := eachF) (q := fit) (by kernel_rfl) (Enc.bare 0 t) hf h
  have hty : e720.ty = env.ty := rfl
  have hpl : e720.plan = env.plan := rfl
  obtain ⟨a0, a1, a2, a3, a4, a5, ha⟩ := nd_cells t
  rw [show (Enc.enc t : AV) = t.av from rfl]
  unfold isR
  rw [ha] at k7 k20 ⊢
  generalize sizeF t = k at *
  generalize eachF t = e at *
  unfold bodyL
  simp only [codeAt, sub, Tryz.f14]
  cases hb : ltI 2000 k <;> simp [EVT, endL, evSeq, evOne, evAct, evOp, opKind, evPure, evRead, evNew, evWrite, evSlice, natOf, optVal, readAt, AV.cells, wantedA, putTm, val, allVals, evBin, evInt, evStr, evAppend, evMin, nilCmp, denseFrom, sizesAre, onesIn, evPlan, recheck, H.new, H.put, fillF, fillAt, allOne, AV.one, setArgs, evRes, resOf, ofVal, ofVal0, isShift, ikBeq, TYC, hty, hpl, k7, k20, hb, AV.wk, Enc.enc]
end Go.Proofs.YtogjplcnmibnlaaGreatDoor.Tr
