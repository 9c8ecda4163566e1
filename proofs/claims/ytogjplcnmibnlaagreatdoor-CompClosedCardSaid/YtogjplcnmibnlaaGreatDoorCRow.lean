/- The laid table of white space at the beginning of a call; what the rows of this seat share. -/
import Derived.Test.YtogjplcnmibnlaaGreatDoorCEnv
import Derived.Test.YtogjplcnmibnlaaGreatDoorEvY
import Derived.Test.YtogjplcnmibnlaaGreatDoorTie
import Derived.Test.YtogjplcnmibnlaaGreatDoorCards
import Derived.LaidMore
import Derived.Stop.Joined
import Derived.SevenTiedAt
set_option autoImplicit false
set_option maxRecDepth 100000
namespace Go.Proofs.YtogjplcnmibnlaaGreatDoor.Env
open Go.Ev Go.ChangeShapes Go.WideShapes Go.ChangeAt Go.RowKit

abbrev laidL : List (String × DataW Unit) := [("unicode.White_Space", Rows.laid_unicode_White_Space), ("strings.asciiSpace", Rows.laid_strings_asciiSpace)]
theorem own : ownKnob Tryz.prog.godebug = none := by kernel_rfl
theorem laidOut : laidOutB Tryz.prog = true := by kernel_rfl
theorem door_met (os : Os) (args : Array Value) : laidMetH Tryz.prog laidL ((World.doorLaid Tryz.prog 4000 os).forCall (fun _ _ => 0) ⟨#[], args, []⟩).memory :=
  laidMetH_of_parts3 (fuel := 8) (laidMet_of_run' 8 (by kernel_rfl) (by kernel_rfl)) (by kernel_rfl) (by kernel_rfl)
theorem shaped (os : Os) (args : Array Value) : ((World.doorLaid Tryz.prog 4000 os).forCall (fun _ _ => 0) ⟨#[], args, []⟩).Shaped Tryz.prog := World.shaped_of_RefB (by kernel_rfl) (by kernel_rfl)
theorem gA : Tryz.prog.globalNamed "strings.asciiSpace" = some 0 := by kernel_rfl
theorem tA : (Tryz.prog.globals[0]?).map (·.type) = some 164 := by kernel_rfl
theorem tab_of_laid {W : World} (h : laidMetH Tryz.prog laidL W) : Lib.TabIs Tryz.prog W "strings.asciiSpace" .u8 Lib.asciiSpaceTab := by
  rw [MakeChecks.laidMetH_plain _ _ _ (by kernel_rfl)] at h
  obtain ⟨ps, ⟨g0, t0, cs0, f0, p0, q0, hg0, ht0, hv0, hd0, ⟨g1, t1, cs1, f1, p1, q1, hg1, ht1, hv1, hd1, _, _⟩, _⟩, _, _⟩ := h
  obtain rfl := Option.some.inj (gA.symm.trans hg1)
  obtain rfl := Option.some.inj (tA.symm.trans ht1)
  unfold Lib.TabIs
  rw [hv1]
  have e : Rows.laid_strings_asciiSpace (H := Unit) = Lib.tabData .u8 Lib.asciiSpaceTab := by kernel_rfl
  rw [e] at hd1
  rw [← Lib.cells_of_tab Tryz.underlying164 Tryz.underlying5 (by kernel_rfl) (by kernel_rfl) hd1]
theorem tab_stays {W W' : World} (h : Lib.TabIs Tryz.prog W "strings.asciiSpace" .u8 Lib.asciiSpaceTab) (e : W'.heap[(0 : Nat)]? = W.heap[(0 : Nat)]?) : Lib.TabIs Tryz.prog W' "strings.asciiSpace" .u8 Lib.asciiSpaceTab := by
  unfold Lib.TabIs World.var? at h ⊢
  rw [gA] at h ⊢
  simp only [Option.bind_some] at h ⊢
  rw [e]
  exact h
theorem ka_of_laid {W : World} (h : laidMetH Tryz.prog laidL W) : ∀ p ∈ (default : KA0).ka, p.2 W.heap[p.1]? ∧ p.1 < W.heap.size := by
  have ht := tab_of_laid h
  intro p hp
  obtain rfl : p = _ := List.mem_singleton.1 hp
  refine ⟨fun w' e => tab_stays ht e, ?_⟩
  unfold Lib.TabIs World.var? at ht
  rw [gA] at ht
  simp only [Option.bind_some] at ht
  show 0 < W.heap.size
  cases hs : W.heap[(0 : Nat)]? with
  | none => rw [hs] at ht; simp at ht
  | some o => exact (Array.getElem?_eq_some_iff.1 hs).1
end Go.Proofs.YtogjplcnmibnlaaGreatDoor.Env
