/- The laws' own look at a text, taken by what it comes to. -/
import Derived.Test.YtogjplcnmibnlaaGreatDoorCH
import Derived.Test.YtogjplcnmibnlaaGreatDoorCZl
set_option autoImplicit false
set_option maxRecDepth 100000
set_option linter.unusedSimpArgs false
set_option linter.unusedVariables false
set_option linter.unusedSectionVars false
namespace Go.Proofs.YtogjplcnmibnlaaGreatDoor.Env
open Go.Ev
theorem known0 : resIs true (evFn env1 300 11 [] ⟨.e, 0⟩) = true := by kernel_rfl
noncomputable def env2 : Env := addPrim env1 11 (primBool true)
theorem env2_ok : EnvOk Tryz.prog env2 := addPrim_ok env1_ok (primBool_ok env1_ok known0)
end Go.Proofs.YtogjplcnmibnlaaGreatDoor.Env
/- The machine of the laws CompMakes and CompClosed. -/
set_option maxHeartbeats 8000000
namespace Go.Proofs.YtogjplcnmibnlaaGreatDoor.Env
open Go.Ev Go.Ev.Nd

noncomputable abbrev eC : Env := addPrim (addPrim (addPrim (addPrim (addPrim (addPrim (addPrim (addPrim (addPrim env 127 (primGrow 9 1 16)) 18 Tr.pHasS) 25 Tr.pHasS) 19 Tr.pIsT) 14 Tr.pIsR) 21 Tr.pTFree) 15 Tr.pRFree) 7 Tr.pSize) 11 (primBool true)
theorem eC_ok : EnvOk Tryz.prog eC := addPrim_ok (addPrim_ok (addPrim_ok (addPrim_ok (addPrim_ok (addPrim_ok (addPrim_ok (addPrim_ok (addPrim_ok env_ok pGrow_ok) Tr.p27_ok) Tr.p40_ok) Tr.p9_ok) Tr.p8_ok) Tr.p15_ok) Tr.p16_ok) Tr.p7_ok) (primBool_ok env1_ok known0)
theorem eC_no : [3, 5, 8, 9, 10, 17, 20, 22, 23, 24, 26, 34, 38, 42, 43, 44, 45, 46, 69, 70, 71, 72, 73, 74, 75, 76, 77, 78, 79, 80, 81, 82, 83, 84, 113, 114, 115, 116, 117].all (fun k => (eC.prim k).isNone) = true := by kernel_rfl
theorem eC_none {k : Nat} (h : k ∈ [3, 5, 8, 9, 10, 17, 20, 22, 23, 24, 26, 34, 38, 42, 43, 44, 45, 46, 69, 70, 71, 72, 73, 74, 75, 76, 77, 78, 79, 80, 81, 82, 83, 84, 113, 114, 115, 116, 117]) : eC.prim k = none := by
  have := List.all_eq_true.1 eC_no k h
  exact Option.isNone_iff_eq_none.1 this
theorem eC_of : EOf eC := ⟨rfl, rfl, rfl, fun k hk => eC_none (by simp only [List.mem_cons, List.not_mem_nil, or_false] at hk ⊢; omega), by kernel_rfl, by kernel_rfl, by kernel_rfl, by kernel_rfl, by kernel_rfl, by kernel_rfl, by kernel_rfl, by kernel_rfl⟩
theorem k11C (h : H) : evL eC 11 [] h = some (.bool true, h) := by
  rw [evL_prim eC (by kernel_rfl : eC.prim 11 = some (primBool true))]
  rfl
theorem k7C {t : Nd} (hf : fit t) (h : H) : evL eC 7 [t.av] h = some (.int .i64 (Tr.sizeF t), h) := prim1_call (a := t) (F := Tr.sizeF) eC_of.size (Enc.bare 0 t) hf h
theorem FunsR.shape {h : H} {v : AV} {F : List AV} (c : FunsR h v F) : v = .sl .full [] ∨ ∃ id n, v = .rs id n true := by
  rcases c with ⟨e, _⟩ | ⟨id, e, _⟩
  · exact .inl e
  · exact .inr ⟨id, _, e⟩
end Go.Proofs.YtogjplcnmibnlaaGreatDoor.Env
