/-
  DERIVED. GIVEN WITH THE SEED: THE CARDS: each row of YtogjplcnmibnlaaGreatDoorRows.lean that lists a variable, with what it lists TIED to the program's text (the seventh form; the later family's looks); each row that meets fmt, with fmt's text TOLD by the authors' own Lean function (tested against real Go, not proved from fmt's source: count such statements apart). THE CARD IS WHAT COUNTS. Prove the row's statement (the work); the ties are given (YtogjplcnmibnlaaGreatDoorTie.lean); close each card by the builder's one call (the guide's Derived/Test/ToyasCard.lean, 'card_holds'). Laid BY PROGRAM, IN A SANDBOX (cutbox-door.mjs). By AI agents, Wed Nov 11 2026. No macro, syntax, notation, axiom, sorry.
-/
import Derived.Test.YtogjplcnmibnlaaGreatDoorRows
import GoSem.ClaimSeven
namespace Go.Proofs.YtogjplcnmibnlaaGreatDoor
namespace Rows

/-- THE TIED CARD OF 'emissarylaw14.CompMakes'. -/
def compMakesCard : Claim7 := { stood := { row := compMakesRow, standIns := [], harness := (true, "9f5fa295e72a45b4c9ef79062a1eaa6038550b8e74c8555c322bf3dbf528840c"), looks := false }, kinds := [], alts := [], laidByText := true, laidKinds := [.listed, .data], laidTests := true, laidLooks := .later }
def CompMakesCardSaid : Prop := Claim7.holds Tryz.pinned (.plain (OpenSpec.ofChange compMakesSpec)) compMakesCard

/-- THE TIED CARD OF 'emissarylaw14.CompTexts'. -/
def compTextsCard : Claim7 := { stood := { row := compTextsRow, standIns := [], harness := (true, "9f5fa295e72a45b4c9ef79062a1eaa6038550b8e74c8555c322bf3dbf528840c"), looks := false }, kinds := [], alts := [], laidByText := true, laidKinds := [.listed, .data], laidTests := true, laidLooks := .later }
def CompTextsCardSaid : Prop := Claim7.holds Tryz.pinned (.plain (OpenSpec.ofChange compTextsSpec)) compTextsCard

/-- THE TIED CARD OF 'emissarylaw14.CompClosed'. -/
def compClosedCard : Claim7 := { stood := { row := compClosedRow, standIns := [], harness := (true, "9f5fa295e72a45b4c9ef79062a1eaa6038550b8e74c8555c322bf3dbf528840c"), looks := false }, kinds := [], alts := [], laidByText := true, laidKinds := [.listed, .data], laidTests := true, laidLooks := .later }
def CompClosedCardSaid : Prop := Claim7.holds Tryz.pinned (.plain (OpenSpec.ofChange compClosedSpec)) compClosedCard

/-- THE TIED CARD OF 'emissarylaw14.CompStrings'. -/
def compStringsCard : Claim7 := { stood := { row := compStringsRow, standIns := [], harness := (true, "9f5fa295e72a45b4c9ef79062a1eaa6038550b8e74c8555c322bf3dbf528840c"), looks := false }, kinds := [], alts := [], laidByText := true, laidKinds := [.listed, .data], laidTests := true, laidLooks := .later }
def CompStringsCardSaid : Prop := Claim7.holds Tryz.pinned (.plain (OpenSpec.ofChange compStringsSpec)) compStringsCard

/-- THE SECOND FORM's CARD OF 'emissarylaw14.CompMakes'. -/
def compMakesUptoCard : Claim7 := { stood := { row := compMakesUptoRow, standIns := [], harness := (true, "9f5fa295e72a45b4c9ef79062a1eaa6038550b8e74c8555c322bf3dbf528840c"), looks := false }, kinds := [], alts := [], laidByText := true, laidKinds := [.listed, .data], laidTests := true, laidLooks := .later }
def CompMakesUptoCardSaid : Prop := Claim7.holds Tryz.pinned (.plain (OpenSpec.upto compMakesSpec)) compMakesUptoCard

/-- THE SECOND FORM's CARD OF 'emissarylaw14.CompTexts'. -/
def compTextsUptoCard : Claim7 := { stood := { row := compTextsUptoRow, standIns := [], harness := (true, "9f5fa295e72a45b4c9ef79062a1eaa6038550b8e74c8555c322bf3dbf528840c"), looks := false }, kinds := [], alts := [], laidByText := true, laidKinds := [.listed, .data], laidTests := true, laidLooks := .later }
def CompTextsUptoCardSaid : Prop := Claim7.holds Tryz.pinned (.plain (OpenSpec.upto compTextsSpec)) compTextsUptoCard

/-- THE SECOND FORM's CARD OF 'emissarylaw14.CompClosed'. -/
def compClosedUptoCard : Claim7 := { stood := { row := compClosedUptoRow, standIns := [], harness := (true, "9f5fa295e72a45b4c9ef79062a1eaa6038550b8e74c8555c322bf3dbf528840c"), looks := false }, kinds := [], alts := [], laidByText := true, laidKinds := [.listed, .data], laidTests := true, laidLooks := .later }
def CompClosedUptoCardSaid : Prop := Claim7.holds Tryz.pinned (.plain (OpenSpec.upto compClosedSpec)) compClosedUptoCard

/-- THE SECOND FORM's CARD OF 'emissarylaw14.CompStrings'. -/
def compStringsUptoCard : Claim7 := { stood := { row := compStringsUptoRow, standIns := [], harness := (true, "9f5fa295e72a45b4c9ef79062a1eaa6038550b8e74c8555c322bf3dbf528840c"), looks := false }, kinds := [], alts := [], laidByText := true, laidKinds := [.listed, .data], laidTests := true, laidLooks := .later }
def CompStringsUptoCardSaid : Prop := Claim7.holds Tryz.pinned (.plain (OpenSpec.upto compStringsSpec)) compStringsUptoCard
end Rows
end Go.Proofs.YtogjplcnmibnlaaGreatDoor
