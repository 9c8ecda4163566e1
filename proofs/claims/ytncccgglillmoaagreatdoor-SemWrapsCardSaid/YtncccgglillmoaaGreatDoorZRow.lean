/- The laid table of white space at the beginning of a call; what the rows of this seat share. -/
import Derived.Test.YtncccgglillmoaaGreatDoorZEnv
import Derived.Test.YtncccgglillmoaaGreatDoorEvY
import Derived.Test.YtncccgglillmoaaGreatDoorTie
import Derived.Test.YtncccgglillmoaaGreatDoorCards
import Derived.LaidMore
import Derived.Stop.Joined
import Derived.SevenTiedAt
set_option autoImplicit false
set_option maxRecDepth 100000
namespace Go.Proofs.YtncccgglillmoaaGreatDoor.Env
open Go.Ev Go.ChangeShapes Go.WideShapes Go.ChangeAt Go.RowKit

abbrev laidL : List (String × DataW Unit) := [("errors.errorType", Rows.laid_errors_errorType), ("unicode.White_Space", Rows.laid_unicode_White_Space), ("strings.asciiSpace", Rows.laid_strings_asciiSpace)]
theorem own : ownKnob Tryz.prog.godebug = none := by kernel_rfl
theorem laidOut : laidOutB Tryz.prog = true := by kernel_rfl
theorem door_met (os : Os) (args : Array Value) : laidMetH Tryz.prog laidL ((World.doorLaid Tryz.prog 4000 os).forCall (fun _ _ => 0) ⟨#[], args, []⟩).memory :=
  laidMetH_of_parts3 (fuel := 8) (laidMet_of_run' 8 (by kernel_rfl) (by kernel_rfl)) (by kernel_rfl) (by kernel_rfl)
theorem shaped (os : Os) (args : Array Value) : ((World.doorLaid Tryz.prog 4000 os).forCall (fun _ _ => 0) ⟨#[], args, []⟩).Shaped Tryz.prog := World.shaped_of_RefB (by kernel_rfl) (by kernel_rfl)
theorem gA : Tryz.prog.globalNamed "strings.asciiSpace" = some 1 := by kernel_rfl
theorem tA : (Tryz.prog.globals[1]?).map (·.type) = some 266 := by kernel_rfl
theorem gE : Tryz.prog.globalNamed "errors.errorType" = some 0 := by kernel_rfl
theorem rtE : (Tryz.prog.cutTypes.find? (·.1 == "internal/reflectlite.rtype")).map (·.2) = some 197 := by kernel_rfl
theorem oneRow : ((List.range 317).filter fun t => Tryz.prog.rowNamed t [101, 114, 114, 111, 114]) = [89] := by kernel_rfl
theorem sizeT : Tryz.prog.types.size = 317 := by kernel_rfl
theorem parts_of_laid {W : World} (h : laidMetH Tryz.prog laidL W) : laidMet Tryz.prog [("unicode.White_Space", Rows.laid_unicode_White_Space), ("strings.asciiSpace", Rows.laid_strings_asciiSpace)] W ∧ handlesMet Tryz.prog [("errors.errorType", Rows.laid_errors_errorType)] W := h
theorem err_of_laid {W : World} (h : laidMetH Tryz.prog laidL W) : W.cell? ⟨0, 0, none⟩ = some (.iface 197 (.agg #[.pointer (some ⟨4, 89, none⟩)])) := by
  obtain ⟨name, u, ty, e1, e2, e3, e4, e5⟩ := (parts_of_laid h).2 _ (List.mem_singleton.2 rfl)
  have en : name = [101, 114, 114, 111, 114] := (Option.some.inj e1).symm
  subst en
  obtain rfl := Option.some.inj (rtE.symm.trans e2)
  have hm : ty ∈ (List.range 317).filter fun t => Tryz.prog.rowNamed t [101, 114, 114, 111, 114] := List.mem_filter.2 ⟨List.mem_range.2 (by rw [← sizeT]; exact e3), e4⟩
  rw [oneRow] at hm
  obtain rfl := List.mem_singleton.1 hm
  have hh : typeHandle Tryz.prog 89 = .pointer (some ⟨4, 89, none⟩) := by kernel_rfl
  rw [hh] at e5
  simpa using World.var?_cell gE e5 0
theorem tab_of_laid {W : World} (h : laidMetH Tryz.prog laidL W) : Lib.TabIs Tryz.prog W "strings.asciiSpace" .u8 Lib.asciiSpaceTab := by
  obtain ⟨ps, ⟨g0, t0, cs0, f0, p0, q0, hg0, ht0, hv0, hd0, ⟨g1, t1, cs1, f1, p1, q1, hg1, ht1, hv1, hd1, _, _⟩, _⟩, _, _⟩ := (parts_of_laid h).1
  obtain rfl := Option.some.inj (gA.symm.trans hg1)
  obtain rfl := Option.some.inj (tA.symm.trans ht1)
  unfold Lib.TabIs
  rw [hv1]
  have e : Rows.laid_strings_asciiSpace (H := Unit) = Lib.tabData .u8 Lib.asciiSpaceTab := by kernel_rfl
  rw [e] at hd1
  rw [← Lib.cells_of_tab Tryz.underlying266 Tryz.underlying5 (by kernel_rfl) (by kernel_rfl) hd1]
theorem tab_stays {W W' : World} (h : Lib.TabIs Tryz.prog W "strings.asciiSpace" .u8 Lib.asciiSpaceTab) (e : W'.heap[(1 : Nat)]? = W.heap[(1 : Nat)]?) : Lib.TabIs Tryz.prog W' "strings.asciiSpace" .u8 Lib.asciiSpaceTab := by
  unfold Lib.TabIs World.var? at h ⊢
  rw [gA] at h ⊢
  simp only [Option.bind_some] at h ⊢
  rw [e]
  exact h
theorem ka_of_laid {W : World} (h : laidMetH Tryz.prog laidL W) : ∀ p ∈ (default : KA0).ka, p.2 W.heap[p.1]? ∧ p.1 < W.heap.size := by
  have ht := tab_of_laid h
  have he := err_of_laid h
  intro p hp
  rcases List.mem_cons.1 hp with rfl | hp
  · refine ⟨fun w' e => tab_stays ht e, ?_⟩
    unfold Lib.TabIs World.var? at ht
    rw [gA] at ht
    simp only [Option.bind_some] at ht
    show 1 < W.heap.size
    cases hs : W.heap[(1 : Nat)]? with
    | none => rw [hs] at ht; simp at ht
    | some o => exact (Array.getElem?_eq_some_iff.1 hs).1
  · obtain rfl : p = _ := List.mem_singleton.1 hp
    refine ⟨fun w' e => (World.cell?_of_block (w := W) (a := ⟨0, 0, none⟩) e).trans he, ?_⟩
    exact World.block_lt_of_cell? W ⟨0, 0, none⟩ he
end Go.Proofs.YtncccgglillmoaaGreatDoor.Env
