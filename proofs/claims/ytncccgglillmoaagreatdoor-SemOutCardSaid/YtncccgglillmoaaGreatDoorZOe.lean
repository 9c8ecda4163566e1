/- The machine, with calls that are known. -/
import Derived.Test.YtncccgglillmoaaGreatDoorZO
set_option autoImplicit false
set_option maxRecDepth 100000
namespace Go.Proofs.YtncccgglillmoaaGreatDoor.Env
open Go.Ev
noncomputable def envZO : Env := addPrim (addPrim env2 9 (primTab ZO.tabP)) 12 (primTab ZO.tabO)
theorem envZO_ok : EnvOk Tryz.prog envZO := addPrim_ok (addPrim_ok env2_ok (primTab_ok env1_ok Tryz.func9 (by kernel_rfl) (by kernel_rfl) ZO.tabP_ok)) (primTab_ok env1_ok Tryz.func12 (by kernel_rfl) (by kernel_rfl) ZO.tabO_ok)
end Go.Proofs.YtncccgglillmoaaGreatDoor.Env
