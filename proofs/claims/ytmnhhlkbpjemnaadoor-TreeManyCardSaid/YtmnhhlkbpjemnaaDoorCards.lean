/-
  DERIVED. GIVEN WITH THE SEED: THE CARDS: each row of YtmnhhlkbpjemnaaDoorRows.lean that lists a variable, with what it lists TIED to the program's text (the seventh form; the later family's looks); each row that meets fmt, with fmt's text TOLD by the authors' own Lean function (tested against real Go, not proved from fmt's source: count such statements apart). THE CARD IS WHAT COUNTS. Prove the row's statement (the work); the ties are given (YtmnhhlkbpjemnaaDoorTie.lean); close each card by the builder's one call (the guide's Derived/Test/ToyasCard.lean, 'card_holds'). Laid BY PROGRAM, IN A SANDBOX (cutbox-door.mjs). By AI agents, Wed Nov 11 2026. No macro, syntax, notation, axiom, sorry.
-/
import Derived.Test.YtmnhhlkbpjemnaaDoorRows
import GoSem.ClaimSeven
namespace Go.Proofs.YtmnhhlkbpjemnaaDoor
namespace Rows

/-- THE TIED CARD OF 'emissarylaw5.TreeIs'. -/
def treeIsCard : Claim7 := { stood := { row := treeIsRow, standIns := [], harness := (true, "5c0a91849978b6ba4850a904f330acaa3aa9624a378bf2e1b12b845bf4cdbf84"), looks := false }, kinds := [], alts := [], laidByText := true, laidKinds := [.listed, .data], laidTests := true, laidLooks := .later }
def TreeIsCardSaid : Prop := Claim7.holds Tryd.pinned (.plain (OpenSpec.ofChange treeIsSpec)) treeIsCard

/-- THE TIED CARD OF 'emissarylaw5.TreeFree'. -/
def treeFreeCard : Claim7 := { stood := { row := treeFreeRow, standIns := [], harness := (true, "5c0a91849978b6ba4850a904f330acaa3aa9624a378bf2e1b12b845bf4cdbf84"), looks := false }, kinds := [], alts := [], laidByText := true, laidKinds := [.listed, .data], laidTests := true, laidLooks := .later }
def TreeFreeCardSaid : Prop := Claim7.holds Tryd.pinned (.plain (OpenSpec.ofChange treeFreeSpec)) treeFreeCard

/-- THE TIED CARD OF 'emissarylaw5.TreeMany'. -/
def treeManyCard : Claim7 := { stood := { row := treeManyRow, standIns := [], harness := (true, "5c0a91849978b6ba4850a904f330acaa3aa9624a378bf2e1b12b845bf4cdbf84"), looks := false }, kinds := [], alts := [], laidByText := true, laidKinds := [.listed, .data], laidTests := true, laidLooks := .later }
def TreeManyCardSaid : Prop := Claim7.holds Tryd.pinned (.plain (OpenSpec.ofChange treeManySpec)) treeManyCard

/-- THE TIED CARD OF 'emissarylaw5.TreeSame'. -/
def treeSameCard : Claim7 := { stood := { row := treeSameRow, standIns := [], harness := (true, "5c0a91849978b6ba4850a904f330acaa3aa9624a378bf2e1b12b845bf4cdbf84"), looks := false }, kinds := [], alts := [], laidByText := true, laidKinds := [.listed, .data], laidTests := true, laidLooks := .later }
def TreeSameCardSaid : Prop := Claim7.holds Tryd.pinned (.plain (OpenSpec.ofChange treeSameSpec)) treeSameCard

/-- THE SECOND FORM's CARD OF 'emissarylaw5.TreeIs'. -/
def treeIsUptoCard : Claim7 := { stood := { row := treeIsUptoRow, standIns := [], harness := (true, "5c0a91849978b6ba4850a904f330acaa3aa9624a378bf2e1b12b845bf4cdbf84"), looks := false }, kinds := [], alts := [], laidByText := true, laidKinds := [.listed, .data], laidTests := true, laidLooks := .later }
def TreeIsUptoCardSaid : Prop := Claim7.holds Tryd.pinned (.plain (OpenSpec.upto treeIsSpec)) treeIsUptoCard

/-- THE SECOND FORM's CARD OF 'emissarylaw5.TreeFree'. -/
def treeFreeUptoCard : Claim7 := { stood := { row := treeFreeUptoRow, standIns := [], harness := (true, "5c0a91849978b6ba4850a904f330acaa3aa9624a378bf2e1b12b845bf4cdbf84"), looks := false }, kinds := [], alts := [], laidByText := true, laidKinds := [.listed, .data], laidTests := true, laidLooks := .later }
def TreeFreeUptoCardSaid : Prop := Claim7.holds Tryd.pinned (.plain (OpenSpec.upto treeFreeSpec)) treeFreeUptoCard

/-- THE SECOND FORM's CARD OF 'emissarylaw5.TreeMany'. -/
def treeManyUptoCard : Claim7 := { stood := { row := treeManyUptoRow, standIns := [], harness := (true, "5c0a91849978b6ba4850a904f330acaa3aa9624a378bf2e1b12b845bf4cdbf84"), looks := false }, kinds := [], alts := [], laidByText := true, laidKinds := [.listed, .data], laidTests := true, laidLooks := .later }
def TreeManyUptoCardSaid : Prop := Claim7.holds Tryd.pinned (.plain (OpenSpec.upto treeManySpec)) treeManyUptoCard

/-- THE SECOND FORM's CARD OF 'emissarylaw5.TreeSame'. -/
def treeSameUptoCard : Claim7 := { stood := { row := treeSameUptoRow, standIns := [], harness := (true, "5c0a91849978b6ba4850a904f330acaa3aa9624a378bf2e1b12b845bf4cdbf84"), looks := false }, kinds := [], alts := [], laidByText := true, laidKinds := [.listed, .data], laidTests := true, laidLooks := .later }
def TreeSameUptoCardSaid : Prop := Claim7.holds Tryd.pinned (.plain (OpenSpec.upto treeSameSpec)) treeSameUptoCard
end Rows
end Go.Proofs.YtmnhhlkbpjemnaaDoor
