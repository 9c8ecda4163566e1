/- How many kids an Op has. -/
import Derived.Test.YtncccgglillmoaaGreatDoorZTLRun
import Derived.Test.YtncccgglillmoaaGreatDoorZTM
set_option autoImplicit false
set_option maxRecDepth 100000
set_option maxHeartbeats 1000000
set_option linter.unusedSimpArgs false
set_option linter.unusedVariables false
namespace Go.Proofs.YtncccgglillmoaaGreatDoor.Tr
open Go.Proofs.YtncccgglillmoaaGreatDoor.Env Go.Ev Go.Ev.Nd

def inO (o : List Nat) (l : List (List Nat)) : Bool := l.any fun x => natsBeq o x
def ops0 : List (List Nat) := [[105, 110, 116], [98, 111, 111, 108], [117, 110, 105, 116], [110, 105, 108], [115, 116, 114], [118, 97, 114]]
def ops1 : List (List Nat) := [[102, 117, 110], [114, 97, 105, 115, 101], [103, 101, 116], [102, 115, 116], [115, 110, 100], [114, 101, 102], [99, 101, 108, 108], [116, 97, 103], [108, 105, 110, 107, 115], [115, 105, 122, 101], [112, 114, 105, 110, 116]]
def ops2 : List (List Nat) := [[108, 101, 116], [114, 101, 99], [116, 114, 121], [115, 101, 113], [115, 101, 116], [101, 113], [108, 101, 115, 115], [99, 111, 110, 115], [97, 100, 100], [115, 117, 98], [99, 97, 116], [109, 117, 108], [97, 112, 112], [112, 97, 105, 114], [108, 105, 110, 107]]
def ops3 : List (List Nat) := [[105, 102], [109, 97, 116, 99, 104]]
def kidsF (o : List Nat) : Int := bif inO o ops0 then 0 else bif inO o ops1 then 1 else bif inO o ops2 then 2 else bif inO o ops3 then 3 else -1
theorem nb_no {a b : List Nat} (h : ¬ a = b) : natsBeq a b = false := by cases hb : natsBeq a b with | false => rfl | true => exact absurd (natsBeq_iff.1 hb) h
noncomputable abbrev pKids := primVal (ofRel (Rel1 (fun _ : Str => True) (fun s => kidsF s.s)))
theorem body32 : Tryz.f131.body = some (codeAt Tryz.f131 []) := rfl
theorem p32_ok : PrimOk Tryz.prog 131 pKids := prim1_ok env_ok (fn := Tryz.f131) (by kernel_rfl) body32 (by kernel_rfl) fun s _ => by
  obtain ⟨o⟩ := s
  show ∃ v' h1, bodyL env 131 Tryz.f131 (codeAt Tryz.f131 []) [.str o] ⟨.e, 0⟩ = some (v', h1) ∧ v'.wk 0 (.int .i64 (kidsF o))
  by_cases e1 : o = [105, 110, 116]
  · subst e1; exact ⟨.int .i64 0, ⟨.e, 0⟩, bodyL_of (by kernel_rfl) (by kernel_rfl) body32 rfl (evL_of env (k := 80) (by kernel_rfl)), by rw [show kidsF [105, 110, 116] = 0 from rfl]; simp [AV.wk]⟩
  by_cases e2 : o = [98, 111, 111, 108]
  · subst e2; exact ⟨.int .i64 0, ⟨.e, 0⟩, bodyL_of (by kernel_rfl) (by kernel_rfl) body32 rfl (evL_of env (k := 80) (by kernel_rfl)), by rw [show kidsF [98, 111, 111, 108] = 0 from rfl]; simp [AV.wk]⟩
  by_cases e3 : o = [117, 110, 105, 116]
  · subst e3; exact ⟨.int .i64 0, ⟨.e, 0⟩, bodyL_of (by kernel_rfl) (by kernel_rfl) body32 rfl (evL_of env (k := 80) (by kernel_rfl)), by rw [show kidsF [117, 110, 105, 116] = 0 from rfl]; simp [AV.wk]⟩
  by_cases e4 : o = [110, 105, 108]
  · subst e4; exact ⟨.int .i64 0, ⟨.e, 0⟩, bodyL_of (by kernel_rfl) (by kernel_rfl) body32 rfl (evL_of env (k := 80) (by kernel_rfl)), by rw [show kidsF [110, 105, 108] = 0 from rfl]; simp [AV.wk]⟩
  by_cases e5 : o = [115, 116, 114]
  · subst e5; exact ⟨.int .i64 0, ⟨.e, 0⟩, bodyL_of (by kernel_rfl) (by kernel_rfl) body32 rfl (evL_of env (k := 80) (by kernel_rfl)), by rw [show kidsF [115, 116, 114] = 0 from rfl]; simp [AV.wk]⟩
  by_cases e6 : o = [118, 97, 114]
  · subst e6; exact ⟨.int .i64 0, ⟨.e, 0⟩, bodyL_of (by kernel_rfl) (by kernel_rfl) body32 rfl (evL_of env (k := 80) (by kernel_rfl)), by rw [show kidsF [118, 97, 114] = 0 from rfl]; simp [AV.wk]⟩
  by_cases e7 : o = [102, 117, 110]
  · subst e7; exact ⟨.int .i64 1, ⟨.e, 0⟩, bodyL_of (by kernel_rfl) (by kernel_rfl) body32 rfl (evL_of env (k := 80) (by kernel_rfl)), by rw [show kidsF [102, 117, 110] = 1 from rfl]; simp [AV.wk]⟩
  by_cases e8 : o = [114, 97, 105, 115, 101]
  · subst e8; exact ⟨.int .i64 1, ⟨.e, 0⟩, bodyL_of (by kernel_rfl) (by kernel_rfl) body32 rfl (evL_of env (k := 80) (by kernel_rfl)), by rw [show kidsF [114, 97, 105, 115, 101] = 1 from rfl]; simp [AV.wk]⟩
  by_cases e9 : o = [103, 101, 116]
  · subst e9; exact ⟨.int .i64 1, ⟨.e, 0⟩, bodyL_of (by kernel_rfl) (by kernel_rfl) body32 rfl (evL_of env (k := 80) (by kernel_rfl)), by rw [show kidsF [103, 101, 116] = 1 from rfl]; simp [AV.wk]⟩
  by_cases e10 : o = [102, 115, 116]
  · subst e10; exact ⟨.int .i64 1, ⟨.e, 0⟩, bodyL_of (by kernel_rfl) (by kernel_rfl) body32 rfl (evL_of env (k := 80) (by kernel_rfl)), by rw [show kidsF [102, 115, 116] = 1 from rfl]; simp [AV.wk]⟩
  by_cases e11 : o = [115, 110, 100]
  · subst e11; exact ⟨.int .i64 1, ⟨.e, 0⟩, bodyL_of (by kernel_rfl) (by kernel_rfl) body32 rfl (evL_of env (k := 80) (by kernel_rfl)), by rw [show kidsF [115, 110, 100] = 1 from rfl]; simp [AV.wk]⟩
  by_cases e12 : o = [114, 101, 102]
  · subst e12; exact ⟨.int .i64 1, ⟨.e, 0⟩, bodyL_of (by kernel_rfl) (by kernel_rfl) body32 rfl (evL_of env (k := 80) (by kernel_rfl)), by rw [show kidsF [114, 101, 102] = 1 from rfl]; simp [AV.wk]⟩
  by_cases e13 : o = [99, 101, 108, 108]
  · subst e13; exact ⟨.int .i64 1, ⟨.e, 0⟩, bodyL_of (by kernel_rfl) (by kernel_rfl) body32 rfl (evL_of env (k := 80) (by kernel_rfl)), by rw [show kidsF [99, 101, 108, 108] = 1 from rfl]; simp [AV.wk]⟩
  by_cases e14 : o = [116, 97, 103]
  · subst e14; exact ⟨.int .i64 1, ⟨.e, 0⟩, bodyL_of (by kernel_rfl) (by kernel_rfl) body32 rfl (evL_of env (k := 80) (by kernel_rfl)), by rw [show kidsF [116, 97, 103] = 1 from rfl]; simp [AV.wk]⟩
  by_cases e15 : o = [108, 105, 110, 107, 115]
  · subst e15; exact ⟨.int .i64 1, ⟨.e, 0⟩, bodyL_of (by kernel_rfl) (by kernel_rfl) body32 rfl (evL_of env (k := 80) (by kernel_rfl)), by rw [show kidsF [108, 105, 110, 107, 115] = 1 from rfl]; simp [AV.wk]⟩
  by_cases e16 : o = [115, 105, 122, 101]
  · subst e16; exact ⟨.int .i64 1, ⟨.e, 0⟩, bodyL_of (by kernel_rfl) (by kernel_rfl) body32 rfl (evL_of env (k := 80) (by kernel_rfl)), by rw [show kidsF [115, 105, 122, 101] = 1 from rfl]; simp [AV.wk]⟩
  by_cases e17 : o = [112, 114, 105, 110, 116]
  · subst e17; exact ⟨.int .i64 1, ⟨.e, 0⟩, bodyL_of (by kernel_rfl) (by kernel_rfl) body32 rfl (evL_of env (k := 80) (by kernel_rfl)), by rw [show kidsF [112, 114, 105, 110, 116] = 1 from rfl]; simp [AV.wk]⟩
  by_cases e18 : o = [108, 101, 116]
  · subst e18; exact ⟨.int .i64 2, ⟨.e, 0⟩, bodyL_of (by kernel_rfl) (by kernel_rfl) body32 rfl (evL_of env (k := 80) (by kernel_rfl)), by rw [show kidsF [108, 101, 116] = 2 from rfl]; simp [AV.wk]⟩
  by_cases e19 : o = [114, 101, 99]
  · subst e19; exact ⟨.int .i64 2, ⟨.e, 0⟩, bodyL_of (by kernel_rfl) (by kernel_rfl) body32 rfl (evL_of env (k := 80) (by kernel_rfl)), by rw [show kidsF [114, 101, 99] = 2 from rfl]; simp [AV.wk]⟩
  by_cases e20 : o = [116, 114, 121]
  · subst e20; exact ⟨.int .i64 2, ⟨.e, 0⟩, bodyL_of (by kernel_rfl) (by kernel_rfl) body32 rfl (evL_of env (k := 80) (by kernel_rfl)), by rw [show kidsF [116, 114, 121] = 2 from rfl]; simp [AV.wk]⟩
  by_cases e21 : o = [115, 101, 113]
  · subst e21; exact ⟨.int .i64 2, ⟨.e, 0⟩, bodyL_of (by kernel_rfl) (by kernel_rfl) body32 rfl (evL_of env (k := 80) (by kernel_rfl)), by rw [show kidsF [115, 101, 113] = 2 from rfl]; simp [AV.wk]⟩
  by_cases e22 : o = [115, 101, 116]
  · subst e22; exact ⟨.int .i64 2, ⟨.e, 0⟩, bodyL_of (by kernel_rfl) (by kernel_rfl) body32 rfl (evL_of env (k := 80) (by kernel_rfl)), by rw [show kidsF [115, 101, 116] = 2 from rfl]; simp [AV.wk]⟩
  by_cases e23 : o = [101, 113]
  · subst e23; exact ⟨.int .i64 2, ⟨.e, 0⟩, bodyL_of (by kernel_rfl) (by kernel_rfl) body32 rfl (evL_of env (k := 80) (by kernel_rfl)), by rw [show kidsF [101, 113] = 2 from rfl]; simp [AV.wk]⟩
  by_cases e24 : o = [108, 101, 115, 115]
  · subst e24; exact ⟨.int .i64 2, ⟨.e, 0⟩, bodyL_of (by kernel_rfl) (by kernel_rfl) body32 rfl (evL_of env (k := 80) (by kernel_rfl)), by rw [show kidsF [108, 101, 115, 115] = 2 from rfl]; simp [AV.wk]⟩
  by_cases e25 : o = [99, 111, 110, 115]
  · subst e25; exact ⟨.int .i64 2, ⟨.e, 0⟩, bodyL_of (by kernel_rfl) (by kernel_rfl) body32 rfl (evL_of env (k := 80) (by kernel_rfl)), by rw [show kidsF [99, 111, 110, 115] = 2 from rfl]; simp [AV.wk]⟩
  by_cases e26 : o = [97, 100, 100]
  · subst e26; exact ⟨.int .i64 2, ⟨.e, 0⟩, bodyL_of (by kernel_rfl) (by kernel_rfl) body32 rfl (evL_of env (k := 80) (by kernel_rfl)), by rw [show kidsF [97, 100, 100] = 2 from rfl]; simp [AV.wk]⟩
  by_cases e27 : o = [115, 117, 98]
  · subst e27; exact ⟨.int .i64 2, ⟨.e, 0⟩, bodyL_of (by kernel_rfl) (by kernel_rfl) body32 rfl (evL_of env (k := 80) (by kernel_rfl)), by rw [show kidsF [115, 117, 98] = 2 from rfl]; simp [AV.wk]⟩
  by_cases e28 : o = [99, 97, 116]
  · subst e28; exact ⟨.int .i64 2, ⟨.e, 0⟩, bodyL_of (by kernel_rfl) (by kernel_rfl) body32 rfl (evL_of env (k := 80) (by kernel_rfl)), by rw [show kidsF [99, 97, 116] = 2 from rfl]; simp [AV.wk]⟩
  by_cases e29 : o = [109, 117, 108]
  · subst e29; exact ⟨.int .i64 2, ⟨.e, 0⟩, bodyL_of (by kernel_rfl) (by kernel_rfl) body32 rfl (evL_of env (k := 80) (by kernel_rfl)), by rw [show kidsF [109, 117, 108] = 2 from rfl]; simp [AV.wk]⟩
  by_cases e30 : o = [97, 112, 112]
  · subst e30; exact ⟨.int .i64 2, ⟨.e, 0⟩, bodyL_of (by kernel_rfl) (by kernel_rfl) body32 rfl (evL_of env (k := 80) (by kernel_rfl)), by rw [show kidsF [97, 112, 112] = 2 from rfl]; simp [AV.wk]⟩
  by_cases e31 : o = [112, 97, 105, 114]
  · subst e31; exact ⟨.int .i64 2, ⟨.e, 0⟩, bodyL_of (by kernel_rfl) (by kernel_rfl) body32 rfl (evL_of env (k := 80) (by kernel_rfl)), by rw [show kidsF [112, 97, 105, 114] = 2 from rfl]; simp [AV.wk]⟩
  by_cases e32 : o = [108, 105, 110, 107]
  · subst e32; exact ⟨.int .i64 2, ⟨.e, 0⟩, bodyL_of (by kernel_rfl) (by kernel_rfl) body32 rfl (evL_of env (k := 80) (by kernel_rfl)), by rw [show kidsF [108, 105, 110, 107] = 2 from rfl]; simp [AV.wk]⟩
  by_cases e33 : o = [105, 102]
  · subst e33; exact ⟨.int .i64 3, ⟨.e, 0⟩, bodyL_of (by kernel_rfl) (by kernel_rfl) body32 rfl (evL_of env (k := 80) (by kernel_rfl)), by rw [show kidsF [105, 102] = 3 from rfl]; simp [AV.wk]⟩
  by_cases e34 : o = [109, 97, 116, 99, 104]
  · subst e34; exact ⟨.int .i64 3, ⟨.e, 0⟩, bodyL_of (by kernel_rfl) (by kernel_rfl) body32 rfl (evL_of env (k := 80) (by kernel_rfl)), by rw [show kidsF [109, 97, 116, 99, 104] = 3 from rfl]; simp [AV.wk]⟩
  replace e1 := nb_no e1
  replace e2 := nb_no e2
  replace e3 := nb_no e3
  replace e4 := nb_no e4
  replace e5 := nb_no e5
  replace e6 := nb_no e6
  replace e7 := nb_no e7
  replace e8 := nb_no e8
  replace e9 := nb_no e9
  replace e10 := nb_no e10
  replace e11 := nb_no e11
  replace e12 := nb_no e12
  replace e13 := nb_no e13
  replace e14 := nb_no e14
  replace e15 := nb_no e15
  replace e16 := nb_no e16
  replace e17 := nb_no e17
  replace e18 := nb_no e18
  replace e19 := nb_no e19
  replace e20 := nb_no e20
  replace e21 := nb_no e21
  replace e22 := nb_no e22
  replace e23 := nb_no e23
  replace e24 := nb_no e24
  replace e25 := nb_no e25
  replace e26 := nb_no e26
  replace e27 := nb_no e27
  replace e28 := nb_no e28
  replace e29 := nb_no e29
  replace e30 := nb_no e30
  replace e31 := nb_no e31
  replace e32 := nb_no e32
  replace e33 := nb_no e33
  replace e34 := nb_no e34
  have hk : kidsF o = -1 := by simp [kidsF, inO, ops0, ops1, ops2, ops3, e1, e2, e3, e4, e5, e6, e7, e8, e9, e10, e11, e12, e13, e14, e15, e16, e17, e18, e19, e20, e21, e22, e23, e24, e25, e26, e27, e28, e29, e30, e31, e32, e33, e34]
  rw [hk]
  unfold bodyL
  simp only [codeAt, sub, Tryz.f131]
  simp [EVT, endL, evSeq, evOne, evAct, evOp, opKind, evPure, evRead, evNew, evWrite, evSlice, natOf, optVal, readAt, AV.cells, wantedA, putTm, val, allVals, evBin, evInt, evStr, evAppend, evMin, nilCmp, denseFrom, sizesAre, onesIn, evPlan, recheck, H.new, H.put, fillF, fillAt, allOne, AV.one, setArgs, evRes, resOf, ofVal, ofVal0, isShift, ikBeq, TYC, bytesOf, AV.wk, e1, e2, e3, e4, e5, e6, e7, e8, e9, e10, e11, e12, e13, e14, e15, e16, e17, e18, e19, e20, e21, e22, e23, e24, e25, e26, e27, e28, e29, e30, e31, e32, e33, e34]
end Go.Proofs.YtncccgglillmoaaGreatDoor.Tr
