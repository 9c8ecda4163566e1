/- The machine of this seat, with what is taken as primitive. -/
import Derived.Test.YtogjplcnmibnlaaGreatDoorCB
import Derived.Test.YtogjplcnmibnlaaGreatDoorEvW
set_option autoImplicit false
set_option maxRecDepth 100000
namespace Go.Proofs.YtogjplcnmibnlaaGreatDoor.Env
open Go.Ev
noncomputable def env1 : Env := addPrim env0 21 (primBare (pT 30))
theorem env1_ok : EnvOk Tryz.prog env1 := addPrim_ok env0_ok (pT_ok 30)
end Go.Proofs.YtogjplcnmibnlaaGreatDoor.Env
