/- The machine of this seat, with what is taken as primitive; the laws' own look at three. -/
import Derived.Test.YtncccgglillmoaaGreatDoorZD
import Derived.Test.YtncccgglillmoaaGreatDoorEvY
set_option autoImplicit false
set_option maxRecDepth 100000
namespace Go.Proofs.YtncccgglillmoaaGreatDoor.Env
open Go.Ev
noncomputable def env1 : Env := addPrim (addPrim env 137 (primSnap 40 pFree)) 57 pLook
theorem env1_ok : EnvOk Tryz.prog env1 := addPrim_ok (addPrim_ok env_ok pFree_ok) pLook_ok
theorem known0 : resIs true (evFn env1 300 11 [] ⟨.e, 0⟩) = true := by kernel_rfl
noncomputable def env2 : Env := addPrim env1 11 (primBool true)
theorem env2_ok : EnvOk Tryz.prog env2 := addPrim_ok env1_ok (primBool_ok env1_ok known0)
end Go.Proofs.YtncccgglillmoaaGreatDoor.Env
