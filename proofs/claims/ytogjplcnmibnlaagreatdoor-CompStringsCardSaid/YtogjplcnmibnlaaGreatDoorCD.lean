/- The laws' own look at a text, taken by what it comes to. -/
import Derived.Test.YtogjplcnmibnlaaGreatDoorCC
set_option autoImplicit false
set_option maxRecDepth 100000
namespace Go.Proofs.YtogjplcnmibnlaaGreatDoor.Env
open Go.Ev
theorem known0 : resIs true (evFn env1 300 11 [] ⟨.e, 0⟩) = true := by kernel_rfl
noncomputable def env2 : Env := addPrim env1 11 (primBool true)
theorem env2_ok : EnvOk Tryz.prog env2 := addPrim_ok env1_ok (primBool_ok env1_ok known0)
end Go.Proofs.YtogjplcnmibnlaaGreatDoor.Env
