/- Calls that are known, as tables. -/
import Derived.Test.YtncccgglillmoaaGreatDoorZN3
import Derived.Test.YtncccgglillmoaaGreatDoorZN6
import Derived.Test.YtncccgglillmoaaGreatDoorZN9
import Derived.Test.YtncccgglillmoaaGreatDoorZN13
set_option autoImplicit false
namespace Go.Proofs.YtncccgglillmoaaGreatDoor.ZN
open Go Go.Ev Go.Proofs.YtncccgglillmoaaGreatDoor.Env
def tabP : List (List AV × AV) := [([s0], p0), ([s1], p1), ([s2], p2), ([s3], p3), ([s4], p4), ([s5], p5), ([s6], p6), ([s7], p7), ([s8], p8), ([s9], p9), ([s10], p10), ([s11], p11), ([s12], p12), ([s13], p13)]
def tabO : List (List AV × AV) := [([n0], o0), ([n1], o1), ([n2], o2), ([n3], o3), ([n4], o4), ([n5], o5), ([n6], o6), ([n7], o7), ([n8], o8), ([n9], o9), ([n10], o10), ([n11], o11), ([n12], o12), ([n13], o13)]
theorem tabP_ok : ∀ e ∈ tabP, runIs envI 300 9 60 e.1 e.2 = true := by
  intro e he
  simp only [tabP, List.mem_cons, List.not_mem_nil, or_false] at he
  rcases he with rfl | rfl | rfl | rfl | rfl | rfl | rfl | rfl | rfl | rfl | rfl | rfl | rfl | rfl
  · exact hp0
  · exact hp1
  · exact hp2
  · exact hp3
  · exact hp4
  · exact hp5
  · exact hp6
  · exact hp7
  · exact hp8
  · exact hp9
  · exact hp10
  · exact hp11
  · exact hp12
  · exact hp13
theorem tabO_ok : ∀ e ∈ tabO, runIs envI 300 12 60 e.1 e.2 = true := by
  intro e he
  simp only [tabO, List.mem_cons, List.not_mem_nil, or_false] at he
  rcases he with rfl | rfl | rfl | rfl | rfl | rfl | rfl | rfl | rfl | rfl | rfl | rfl | rfl | rfl
  · exact ho0
  · exact ho1
  · exact ho2
  · exact ho3
  · exact ho4
  · exact ho5
  · exact ho6
  · exact ho7
  · exact ho8
  · exact ho9
  · exact ho10
  · exact ho11
  · exact ho12
  · exact ho13
end Go.Proofs.YtncccgglillmoaaGreatDoor.ZN
/- The machine, with calls that are known. -/
set_option autoImplicit false
set_option maxRecDepth 100000
namespace Go.Proofs.YtncccgglillmoaaGreatDoor.Env
open Go.Ev
noncomputable def envZN : Env := addPrim (addPrim envI2 9 (primTab ZN.tabP)) 12 (primTab ZN.tabO)
theorem envZN_ok : EnvOk Tryz.prog envZN := addPrim_ok (addPrim_ok envI2_ok (primTab_ok envI_ok Tryz.func9 (by kernel_rfl) (by kernel_rfl) ZN.tabP_ok)) (primTab_ok envI_ok Tryz.func12 (by kernel_rfl) (by kernel_rfl) ZN.tabO_ok)
end Go.Proofs.YtncccgglillmoaaGreatDoor.Env
