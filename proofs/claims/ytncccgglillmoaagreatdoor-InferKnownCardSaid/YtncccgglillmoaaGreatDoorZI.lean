/- The machine for the laws of types: errors.As too; the laws' own look at two texts. -/
import Derived.Test.YtncccgglillmoaaGreatDoorZAp
import Derived.Test.YtncccgglillmoaaGreatDoorZE
set_option autoImplicit false
set_option maxRecDepth 100000
namespace Go.Proofs.YtncccgglillmoaaGreatDoor.Env
open Go.Ev
noncomputable def envI : Env := addPrim env1 27 pAs
theorem envI_ok : EnvOk Tryz.prog envI := addPrim_ok env1_ok pAs_ok
theorem known15 : resIs true (evFn envI 300 15 [] ⟨.e, 0⟩) = true := by kernel_rfl
noncomputable def envI2 : Env := addPrim envI 15 (primBool true)
theorem envI2_ok : EnvOk Tryz.prog envI2 := addPrim_ok envI_ok (primBool_ok envI_ok known15)
end Go.Proofs.YtncccgglillmoaaGreatDoor.Env
