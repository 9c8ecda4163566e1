/- The laws' look at three, taken by what it comes to. -/
import Derived.Test.YtiifjjcoepgobaaDoorLRow
set_option autoImplicit false
set_option maxRecDepth 100000
namespace Go.Proofs.YtiifjjcoepgobaaDoor.Env
open Go.Ev
theorem known0 : resIs true (evFn env 300 11 [] ⟨.e, 0⟩) = true := by kernel_rfl
noncomputable def env2 : Env := addPrim env 11 (primBool true)
theorem env2_ok : EnvOk Tryd.prog env2 := addPrim_ok env_ok (primBool_ok env_ok known0)
end Go.Proofs.YtiifjjcoepgobaaDoor.Env
