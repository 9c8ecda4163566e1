/- Calls that are known, as tables. -/
import Derived.Test.YtncccgglillmoaaGreatDoorZO0
import Derived.Test.YtncccgglillmoaaGreatDoorZO1
import Derived.Test.YtncccgglillmoaaGreatDoorZO2
set_option autoImplicit false
namespace Go.Proofs.YtncccgglillmoaaGreatDoor.ZO
open Go Go.Ev Go.Proofs.YtncccgglillmoaaGreatDoor.Env
def tabP : List (List AV × AV) := [([s0], p0), ([s1], p1), ([s2], p2), ([s3], p3), ([s4], p4), ([s5], p5)]
def tabO : List (List AV × AV) := [([n0], o0), ([n1], o1), ([n2], o2), ([n3], o3), ([n4], o4), ([n5], o5)]
theorem tabP_ok : ∀ e ∈ tabP, runIs env1 300 9 60 e.1 e.2 = true := by
  intro e he
  simp only [tabP, List.mem_cons, List.not_mem_nil, or_false] at he
  rcases he with rfl | rfl | rfl | rfl | rfl | rfl
  · exact hp0
  · exact hp1
  · exact hp2
  · exact hp3
  · exact hp4
  · exact hp5
theorem tabO_ok : ∀ e ∈ tabO, runIs env1 300 12 60 e.1 e.2 = true := by
  intro e he
  simp only [tabO, List.mem_cons, List.not_mem_nil, or_false] at he
  rcases he with rfl | rfl | rfl | rfl | rfl | rfl
  · exact ho0
  · exact ho1
  · exact ho2
  · exact ho3
  · exact ho4
  · exact ho5
end Go.Proofs.YtncccgglillmoaaGreatDoor.ZO
