/- Calls that are known, as tables. -/
import Derived.Test.YtncccgglillmoaaGreatDoorZQ3
import Derived.Test.YtncccgglillmoaaGreatDoorZQ7
import Derived.Test.YtncccgglillmoaaGreatDoorZQ10
set_option autoImplicit false
namespace Go.Proofs.YtncccgglillmoaaGreatDoor.ZQ
open Go Go.Ev Go.Proofs.YtncccgglillmoaaGreatDoor.Env
def tabP : List (List AV × AV) := [([s0], p0), ([s1], p1), ([s2], p2), ([s3], p3), ([s4], p4), ([s5], p5), ([s6], p6), ([s7], p7), ([s8], p8), ([s9], p9), ([s10], p10)]
def tabO : List (List AV × AV) := [([n0], o0), ([n1], o1), ([n2], o2), ([n3], o3), ([n4], o4), ([n5], o5), ([n6], o6), ([n7], o7), ([n8], o8), ([n9], o9), ([n10], o10)]
theorem tabP_ok : ∀ e ∈ tabP, runIs envI 300 9 60 e.1 e.2 = true := by
  intro e he
  simp only [tabP, List.mem_cons, List.not_mem_nil, or_false] at he
  rcases he with rfl | rfl | rfl | rfl | rfl | rfl | rfl | rfl | rfl | rfl | rfl
  · exact hp0
  · exact hp1
  · exact hp2
  · exact hp3
  · exact hp4
  · exact hp5
  · exact hp6
  · exact hp7
  · exact hp8
  · exact hp9
  · exact hp10
theorem tabO_ok : ∀ e ∈ tabO, runIs envI 300 12 60 e.1 e.2 = true := by
  intro e he
  simp only [tabO, List.mem_cons, List.not_mem_nil, or_false] at he
  rcases he with rfl | rfl | rfl | rfl | rfl | rfl | rfl | rfl | rfl | rfl | rfl
  · exact ho0
  · exact ho1
  · exact ho2
  · exact ho3
  · exact ho4
  · exact ho5
  · exact ho6
  · exact ho7
  · exact ho8
  · exact ho9
  · exact ho10
end Go.Proofs.YtncccgglillmoaaGreatDoor.ZQ
/- The machine, with calls that are known. -/
set_option autoImplicit false
set_option maxRecDepth 100000
namespace Go.Proofs.YtncccgglillmoaaGreatDoor.Env
open Go.Ev
noncomputable def envZQ : Env := addPrim (addPrim envI2 9 (primTab ZQ.tabP)) 12 (primTab ZQ.tabO)
theorem envZQ_ok : EnvOk Tryz.prog envZQ := addPrim_ok (addPrim_ok envI2_ok (primTab_ok envI_ok Tryz.func9 (by kernel_rfl) (by kernel_rfl) ZQ.tabP_ok)) (primTab_ok envI_ok Tryz.func12 (by kernel_rfl) (by kernel_rfl) ZQ.tabO_ok)
end Go.Proofs.YtncccgglillmoaaGreatDoor.Env
