/-
  NARROWER THAN 'FOR EVERY INPUT', by the rows' own cells (each row's printed sentence says how): SchemeOwn: loops · SchemeTells: loops · SchemeLast: loops.
  DERIVED. THE GIVEN ROWS OF THIS SEAT. 3 by the template 'for every input the law returns true; each argument reads behind the call as it read before'; 0 by the template 'total and deterministic' (their statements: YtcmbpfobdgijjaaTotals.lean).
  GIVEN WITH THE SEED: the statements are not yours to turn. If you find one false, say at which input.
  Laid BY PROGRAM, IN A SANDBOX (cutbox-rows.mjs): the forced cells as the released guide's own fill.sh prints them over the translation b5098a4063c4422c… (all of the seat's roots in one cut). By AI agents, Wed Nov 11 2026. No macro, syntax, notation, axiom, sorry.
-/
import Derived.Test.YtcmbpfobdgijjaaChecked
import GoSem.Claim
import GoSem.ClaimJoined
import GoSem.ClaimMapViews
import Derived.JoinedTies
import Derived.KernelRfl
namespace Go.Proofs.Ytcmbpfobdgijjaa
/- THE CELL 'sum', in the pinned program and in every row, IS THE sha256 OF THE DUMP (.gsa) THAT YtcmbpfobdgijjaaProg.lean LOADS. Nothing in Lean hashes anything: it is a label: what it is worth is what the hold of that sum in a sandbox is worth. -/
noncomputable def Try.pinned : Pinned := { name := "ytcmbpfobdgijjaa", sum := "b5098a4063c4422ce98bb76ab424b3497f894a61dd0077dcc7c0f555cfebb1c7", checked := Try.checked }
namespace Rows
def none {H : Type} : Left H := { results := [], args := [] }

/-- 'emissarylaw10.SchemeOwn': WHATEVER THE INPUT: true; the input reads as it did. -/
def schemeOwnSpec : ChangeSpec := { name := "schemeOwn", fn := fun _ => fun
  | [d1, d2] => { results := [.lit (.bool true)], args := [d1, d2] }
  | _ => none }
def schemeOwnRow : OpenClaim := { program := "ytcmbpfobdgijjaa", sum := "b5098a4063c4422ce98bb76ab424b3497f894a61dd0077dcc7c0f555cfebb1c7", func := "emissary/emissarylaw10.SchemeOwn", spec := "schemeOwn", recurses := true, loops := true, apart := false }
def SchemeOwnSaid : Prop := schemeOwnRow.holds Try.pinned (OpenSpec.ofChange schemeOwnSpec)

/-- ITS FALSE NEIGHBOUR: 'it returns false'. Refute it at one input. -/
def schemeOwnWrong : ChangeSpec := { name := "schemeOwn", fn := fun _ => fun
  | [d1, d2] => { results := [.lit (.bool false)], args := [d1, d2] }
  | _ => none }
def SchemeOwnWrongFalsely : Prop := schemeOwnRow.holds Try.pinned (OpenSpec.ofChange schemeOwnWrong)

/-- 'emissarylaw10.SchemeTells': WHATEVER THE INPUT: true; the input reads as it did. -/
def schemeTellsSpec : ChangeSpec := { name := "schemeTells", fn := fun _ => fun
  | [d1, d2, d3] => { results := [.lit (.bool true)], args := [d1, d2, d3] }
  | _ => none }
def schemeTellsRow : OpenClaim := { program := "ytcmbpfobdgijjaa", sum := "b5098a4063c4422ce98bb76ab424b3497f894a61dd0077dcc7c0f555cfebb1c7", func := "emissary/emissarylaw10.SchemeTells", spec := "schemeTells", unfollowed := true, recurses := true, loops := true, apart := false }
def SchemeTellsSaid : Prop := schemeTellsRow.holds Try.pinned (OpenSpec.ofChange schemeTellsSpec)

/-- ITS FALSE NEIGHBOUR: 'it returns false'. Refute it at one input. -/
def schemeTellsWrong : ChangeSpec := { name := "schemeTells", fn := fun _ => fun
  | [d1, d2, d3] => { results := [.lit (.bool false)], args := [d1, d2, d3] }
  | _ => none }
def SchemeTellsWrongFalsely : Prop := schemeTellsRow.holds Try.pinned (OpenSpec.ofChange schemeTellsWrong)

/-- 'emissarylaw10.SchemeLast': WHATEVER THE INPUT: true; the input reads as it did. -/
def schemeLastSpec : ChangeSpec := { name := "schemeLast", fn := fun _ => fun
  | [d1, d2] => { results := [.lit (.bool true)], args := [d1, d2] }
  | _ => none }
def schemeLastRow : OpenClaim := { program := "ytcmbpfobdgijjaa", sum := "b5098a4063c4422ce98bb76ab424b3497f894a61dd0077dcc7c0f555cfebb1c7", func := "emissary/emissarylaw10.SchemeLast", spec := "schemeLast", unfollowed := true, recurses := true, loops := true, apart := false }
def SchemeLastSaid : Prop := schemeLastRow.holds Try.pinned (OpenSpec.ofChange schemeLastSpec)

/-- ITS FALSE NEIGHBOUR: 'it returns false'. Refute it at one input. -/
def schemeLastWrong : ChangeSpec := { name := "schemeLast", fn := fun _ => fun
  | [d1, d2] => { results := [.lit (.bool false)], args := [d1, d2] }
  | _ => none }
def SchemeLastWrongFalsely : Prop := schemeLastRow.holds Try.pinned (OpenSpec.ofChange schemeLastWrong)

/- THE SECOND FORM. 'bulk': how many values and letters a reading holds, each counted each time it is reached (what is shared counts as often as it is met; a slice's spare places count too). A statement '..UptoSaid' is the law's where the arguments, and the package variables that the reading takes, are together of bulk at most 1048576: NARROWER than '..Said'. Prove '..Said' where nothing that the law and all that it calls make is longer than what came in: it says more and counts as full. Else prove '..UptoSaid'. A law counts once. -/
mutual
def uptoBulk {H : Type} : DataW H → Nat
  | .lit (.string bytes) => bytes.length + 1
  | .lit _ => 1
  | .nil => 1
  | .ptr d => uptoBulk d + 1
  | .slice elems spare => uptoBulkAll elems + uptoBulkAll spare + 1
  | .agg parts => uptoBulkAll parts + 1
  | .iface _ d => uptoBulk d + 1
  | .map entries => uptoBulkEntries entries + 1
  | .held _ => 1
def uptoBulkAll {H : Type} : List (DataW H) → Nat
  | [] => 0
  | d :: r => uptoBulk d + uptoBulkAll r
def uptoBulkEntries {H : Type} : List (Lit × DataW H) → Nat
  | [] => 0
  | x :: r => uptoBulkEntry x + uptoBulkEntries r
def uptoBulkEntry {H : Type} : Lit × DataW H → Nat
  | (.string bytes, d) => bytes.length + uptoBulk d + 1
  | (_, d) => uptoBulk d + 1
 end
def uptoSmall : (H : Type) → List (DataW H) → Bool := fun _ ds => decide (uptoBulkAll ds ≤ 1048576)
def OpenSpec.upto (s : _root_.Go.ChangeSpec) : _root_.Go.OpenSpec := { _root_.Go.OpenSpec.ofChange s with cond := some uptoSmall }

/-- 'emissarylaw10.SchemeOwn', WHERE WHAT IT READS IS OF BULK AT MOST 1048576: true; the input reads as it did. -/
def schemeOwnUptoRow : OpenClaim := { program := "ytcmbpfobdgijjaa", sum := "b5098a4063c4422ce98bb76ab424b3497f894a61dd0077dcc7c0f555cfebb1c7", func := "emissary/emissarylaw10.SchemeOwn", spec := "schemeOwn", recurses := true, loops := true, apart := false, narrowed := true }
def SchemeOwnUptoSaid : Prop := schemeOwnUptoRow.holds Try.pinned (OpenSpec.upto schemeOwnSpec)

/-- 'emissarylaw10.SchemeTells', WHERE WHAT IT READS IS OF BULK AT MOST 1048576: true; the input reads as it did. -/
def schemeTellsUptoRow : OpenClaim := { program := "ytcmbpfobdgijjaa", sum := "b5098a4063c4422ce98bb76ab424b3497f894a61dd0077dcc7c0f555cfebb1c7", func := "emissary/emissarylaw10.SchemeTells", spec := "schemeTells", unfollowed := true, recurses := true, loops := true, apart := false, narrowed := true }
def SchemeTellsUptoSaid : Prop := schemeTellsUptoRow.holds Try.pinned (OpenSpec.upto schemeTellsSpec)

/-- 'emissarylaw10.SchemeLast', WHERE WHAT IT READS IS OF BULK AT MOST 1048576: true; the input reads as it did. -/
def schemeLastUptoRow : OpenClaim := { program := "ytcmbpfobdgijjaa", sum := "b5098a4063c4422ce98bb76ab424b3497f894a61dd0077dcc7c0f555cfebb1c7", func := "emissary/emissarylaw10.SchemeLast", spec := "schemeLast", unfollowed := true, recurses := true, loops := true, apart := false, narrowed := true }
def SchemeLastUptoSaid : Prop := schemeLastUptoRow.holds Try.pinned (OpenSpec.upto schemeLastSpec)

end Rows
end Go.Proofs.Ytcmbpfobdgijjaa
