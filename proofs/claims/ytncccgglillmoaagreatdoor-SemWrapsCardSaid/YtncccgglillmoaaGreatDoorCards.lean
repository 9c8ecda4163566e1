/-
  DERIVED. GIVEN WITH THE SEED: THE CARDS: each row of YtncccgglillmoaaGreatDoorRows.lean that lists a variable, with what it lists TIED to the program's text (the seventh form; the later family's looks); each row that meets fmt, with fmt's text TOLD by the authors' own Lean function (tested against real Go, not proved from fmt's source: count such statements apart). THE CARD IS WHAT COUNTS. Prove the row's statement (the work); the ties are given (YtncccgglillmoaaGreatDoorTie.lean); close each card by the builder's one call (the guide's Derived/Test/ToyasCard.lean, 'card_holds'). Laid BY PROGRAM, IN A SANDBOX (cutbox-door.mjs). By AI agents, Wed Nov 11 2026. No macro, syntax, notation, axiom, sorry.
-/
import Derived.Test.YtncccgglillmoaaGreatDoorRows
import GoSem.ClaimSeven
namespace Go.Proofs.YtncccgglillmoaaGreatDoor
namespace Rows

/-- THE TIED CARD OF 'emissarylaw19.SemShares'. -/
def semSharesCard : Claim7 := { stood := { row := semSharesRow, standIns := [], harness := (true, "3cbfc09336b0fd3187cd70d01a7451d87973736717eddd58387b349b75e50026"), looks := true }, kinds := [], alts := [], laidByText := true, laidKinds := [.handle, .listed, .data], laidTests := true, laidLooks := .later }
def SemSharesCardSaid : Prop := Claim7.holds Tryz.pinned (.plain (OpenSpec.ofChange semSharesSpec)) semSharesCard

/-- THE TIED CARD OF 'emissarylaw19.SemWraps'. -/
def semWrapsCard : Claim7 := { stood := { row := semWrapsRow, standIns := [], harness := (true, "3cbfc09336b0fd3187cd70d01a7451d87973736717eddd58387b349b75e50026"), looks := true }, kinds := [], alts := [], laidByText := true, laidKinds := [.handle, .listed, .data], laidTests := true, laidLooks := .later }
def SemWrapsCardSaid : Prop := Claim7.holds Tryz.pinned (.plain (OpenSpec.ofChange semWrapsSpec)) semWrapsCard

/-- THE TIED CARD OF 'emissarylaw11.InferKnown'. -/
def inferKnownCard : Claim7 := { stood := { row := inferKnownRow, standIns := [], harness := (true, "3cbfc09336b0fd3187cd70d01a7451d87973736717eddd58387b349b75e50026"), looks := true }, kinds := [], alts := [], laidByText := true, laidKinds := [.handle, .listed, .data], laidTests := true, laidLooks := .later }
def InferKnownCardSaid : Prop := Claim7.holds Tryz.pinned (.plain (OpenSpec.ofChange inferKnownSpec)) inferKnownCard

/-- THE TIED CARD OF 'emissarylaw11.InferOdd'. -/
def inferOddCard : Claim7 := { stood := { row := inferOddRow, standIns := [], harness := (true, "3cbfc09336b0fd3187cd70d01a7451d87973736717eddd58387b349b75e50026"), looks := true }, kinds := [], alts := [], laidByText := true, laidKinds := [.handle, .listed, .data], laidTests := true, laidLooks := .later }
def InferOddCardSaid : Prop := Claim7.holds Tryz.pinned (.plain (OpenSpec.ofChange inferOddSpec)) inferOddCard

/-- THE TIED CARD OF 'emissarylaw19.SemKnown'. -/
def semKnownCard : Claim7 := { stood := { row := semKnownRow, standIns := [], harness := (true, "3cbfc09336b0fd3187cd70d01a7451d87973736717eddd58387b349b75e50026"), looks := true }, kinds := [], alts := [], laidByText := true, laidKinds := [.handle, .listed, .data], laidTests := true, laidLooks := .later }
def SemKnownCardSaid : Prop := Claim7.holds Tryz.pinned (.plain (OpenSpec.ofChange semKnownSpec)) semKnownCard

/-- THE TIED CARD OF 'emissarylaw19.SemOut'. -/
def semOutCard : Claim7 := { stood := { row := semOutRow, standIns := [], harness := (true, "3cbfc09336b0fd3187cd70d01a7451d87973736717eddd58387b349b75e50026"), looks := true }, kinds := [], alts := [], laidByText := true, laidKinds := [.handle, .listed, .data], laidTests := true, laidLooks := .later }
def SemOutCardSaid : Prop := Claim7.holds Tryz.pinned (.plain (OpenSpec.ofChange semOutSpec)) semOutCard

/-- THE SECOND FORM's CARD OF 'emissarylaw19.SemShares'. -/
def semSharesUptoCard : Claim7 := { stood := { row := semSharesUptoRow, standIns := [], harness := (true, "3cbfc09336b0fd3187cd70d01a7451d87973736717eddd58387b349b75e50026"), looks := true }, kinds := [], alts := [], laidByText := true, laidKinds := [.handle, .listed, .data], laidTests := true, laidLooks := .later }
def SemSharesUptoCardSaid : Prop := Claim7.holds Tryz.pinned (.plain (OpenSpec.upto semSharesSpec)) semSharesUptoCard

/-- THE SECOND FORM's CARD OF 'emissarylaw19.SemWraps'. -/
def semWrapsUptoCard : Claim7 := { stood := { row := semWrapsUptoRow, standIns := [], harness := (true, "3cbfc09336b0fd3187cd70d01a7451d87973736717eddd58387b349b75e50026"), looks := true }, kinds := [], alts := [], laidByText := true, laidKinds := [.handle, .listed, .data], laidTests := true, laidLooks := .later }
def SemWrapsUptoCardSaid : Prop := Claim7.holds Tryz.pinned (.plain (OpenSpec.upto semWrapsSpec)) semWrapsUptoCard

/-- THE SECOND FORM's CARD OF 'emissarylaw11.InferKnown'. -/
def inferKnownUptoCard : Claim7 := { stood := { row := inferKnownUptoRow, standIns := [], harness := (true, "3cbfc09336b0fd3187cd70d01a7451d87973736717eddd58387b349b75e50026"), looks := true }, kinds := [], alts := [], laidByText := true, laidKinds := [.handle, .listed, .data], laidTests := true, laidLooks := .later }
def InferKnownUptoCardSaid : Prop := Claim7.holds Tryz.pinned (.plain (OpenSpec.upto inferKnownSpec)) inferKnownUptoCard

/-- THE SECOND FORM's CARD OF 'emissarylaw11.InferOdd'. -/
def inferOddUptoCard : Claim7 := { stood := { row := inferOddUptoRow, standIns := [], harness := (true, "3cbfc09336b0fd3187cd70d01a7451d87973736717eddd58387b349b75e50026"), looks := true }, kinds := [], alts := [], laidByText := true, laidKinds := [.handle, .listed, .data], laidTests := true, laidLooks := .later }
def InferOddUptoCardSaid : Prop := Claim7.holds Tryz.pinned (.plain (OpenSpec.upto inferOddSpec)) inferOddUptoCard

/-- THE SECOND FORM's CARD OF 'emissarylaw19.SemKnown'. -/
def semKnownUptoCard : Claim7 := { stood := { row := semKnownUptoRow, standIns := [], harness := (true, "3cbfc09336b0fd3187cd70d01a7451d87973736717eddd58387b349b75e50026"), looks := true }, kinds := [], alts := [], laidByText := true, laidKinds := [.handle, .listed, .data], laidTests := true, laidLooks := .later }
def SemKnownUptoCardSaid : Prop := Claim7.holds Tryz.pinned (.plain (OpenSpec.upto semKnownSpec)) semKnownUptoCard

/-- THE SECOND FORM's CARD OF 'emissarylaw19.SemOut'. -/
def semOutUptoCard : Claim7 := { stood := { row := semOutUptoRow, standIns := [], harness := (true, "3cbfc09336b0fd3187cd70d01a7451d87973736717eddd58387b349b75e50026"), looks := true }, kinds := [], alts := [], laidByText := true, laidKinds := [.handle, .listed, .data], laidTests := true, laidLooks := .later }
def SemOutUptoCardSaid : Prop := Claim7.holds Tryz.pinned (.plain (OpenSpec.upto semOutSpec)) semOutUptoCard
end Rows
end Go.Proofs.YtncccgglillmoaaGreatDoor
