/-
  NARROWER THAN 'FOR EVERY INPUT', by the rows' own cells (each row's printed sentence says how): UnifyMakes: loops · UnifyFresh: loops · UnifyWithin: loops · UnifyMost: loops.
  DERIVED. THE GIVEN ROWS OF THIS SEAT. 5 by the template 'for every input the law returns true; each argument reads behind the call as it read before'; 0 by the template 'total and deterministic' (their statements: YtiifjjcoepgobaaTotals.lean).
  GIVEN WITH THE SEED: the statements are not yours to turn. If you find one false, say at which input.
  Laid BY PROGRAM, IN A SANDBOX (cutbox-rows.mjs): the forced cells as the released guide's own fill.sh prints them over the translation d91c2a5e8ce1fd1b… (all of the seat's roots in one cut). By AI agents, Wed Nov 11 2026. No macro, syntax, notation, axiom, sorry.
-/
import Derived.Test.YtiifjjcoepgobaaChecked
import GoSem.Claim
import GoSem.ClaimJoined
import GoSem.ClaimMapViews
import Derived.JoinedTies
import Derived.KernelRfl
namespace Go.Proofs.Ytiifjjcoepgobaa
/- THE CELL 'sum', in the pinned program and in every row, IS THE sha256 OF THE DUMP (.gsa) THAT YtiifjjcoepgobaaProg.lean LOADS. Nothing in Lean hashes anything: it is a label: what it is worth is what the hold of that sum in a sandbox is worth. -/
noncomputable def Try.pinned : Pinned := { name := "ytiifjjcoepgobaa", sum := "d91c2a5e8ce1fd1bfb9cf4bebef49e4ed83915a6f5ba270f4fa3569a60367dc1", checked := Try.checked }
namespace Rows
def none {H : Type} : Left H := { results := [], args := [] }

/-- 'emissarylaw9.UnifyMakes': WHATEVER THE INPUT: true; the input reads as it did. -/
def unifyMakesSpec : ChangeSpec := { name := "unifyMakes", fn := fun _ => fun
  | [d1, d2] => { results := [.lit (.bool true)], args := [d1, d2] }
  | _ => none }
def unifyMakesRow : OpenClaim := { program := "ytiifjjcoepgobaa", sum := "d91c2a5e8ce1fd1bfb9cf4bebef49e4ed83915a6f5ba270f4fa3569a60367dc1", func := "emissary/emissarylaw9.UnifyMakes", spec := "unifyMakes", unfollowed := true, recurses := true, loops := true, apart := false }
def UnifyMakesSaid : Prop := unifyMakesRow.holds Try.pinned (OpenSpec.ofChange unifyMakesSpec)

/-- ITS FALSE NEIGHBOUR: 'it returns false'. Refute it at one input. -/
def unifyMakesWrong : ChangeSpec := { name := "unifyMakes", fn := fun _ => fun
  | [d1, d2] => { results := [.lit (.bool false)], args := [d1, d2] }
  | _ => none }
def UnifyMakesWrongFalsely : Prop := unifyMakesRow.holds Try.pinned (OpenSpec.ofChange unifyMakesWrong)

/-- 'emissarylaw9.UnifyFresh': WHATEVER THE INPUT: true; the input reads as it did. -/
def unifyFreshSpec : ChangeSpec := { name := "unifyFresh", fn := fun _ => fun
  | [d1, d2] => { results := [.lit (.bool true)], args := [d1, d2] }
  | _ => none }
def unifyFreshRow : OpenClaim := { program := "ytiifjjcoepgobaa", sum := "d91c2a5e8ce1fd1bfb9cf4bebef49e4ed83915a6f5ba270f4fa3569a60367dc1", func := "emissary/emissarylaw9.UnifyFresh", spec := "unifyFresh", unfollowed := true, recurses := true, loops := true, apart := false }
def UnifyFreshSaid : Prop := unifyFreshRow.holds Try.pinned (OpenSpec.ofChange unifyFreshSpec)

/-- ITS FALSE NEIGHBOUR: 'it returns false'. Refute it at one input. -/
def unifyFreshWrong : ChangeSpec := { name := "unifyFresh", fn := fun _ => fun
  | [d1, d2] => { results := [.lit (.bool false)], args := [d1, d2] }
  | _ => none }
def UnifyFreshWrongFalsely : Prop := unifyFreshRow.holds Try.pinned (OpenSpec.ofChange unifyFreshWrong)

/-- 'emissarylaw9.UnifyWithin': WHATEVER THE INPUT: true; the input reads as it did. -/
def unifyWithinSpec : ChangeSpec := { name := "unifyWithin", fn := fun _ => fun
  | [d1, d2] => { results := [.lit (.bool true)], args := [d1, d2] }
  | _ => none }
def unifyWithinRow : OpenClaim := { program := "ytiifjjcoepgobaa", sum := "d91c2a5e8ce1fd1bfb9cf4bebef49e4ed83915a6f5ba270f4fa3569a60367dc1", func := "emissary/emissarylaw9.UnifyWithin", spec := "unifyWithin", unfollowed := true, recurses := true, loops := true, apart := false }
def UnifyWithinSaid : Prop := unifyWithinRow.holds Try.pinned (OpenSpec.ofChange unifyWithinSpec)

/-- ITS FALSE NEIGHBOUR: 'it returns false'. Refute it at one input. -/
def unifyWithinWrong : ChangeSpec := { name := "unifyWithin", fn := fun _ => fun
  | [d1, d2] => { results := [.lit (.bool false)], args := [d1, d2] }
  | _ => none }
def UnifyWithinWrongFalsely : Prop := unifyWithinRow.holds Try.pinned (OpenSpec.ofChange unifyWithinWrong)

/-- 'emissarylaw9.UnifyMost': WHATEVER THE INPUT: true; the input reads as it did. -/
def unifyMostSpec : ChangeSpec := { name := "unifyMost", fn := fun _ => fun
  | [d1, d2] => { results := [.lit (.bool true)], args := [d1, d2] }
  | _ => none }
def unifyMostRow : OpenClaim := { program := "ytiifjjcoepgobaa", sum := "d91c2a5e8ce1fd1bfb9cf4bebef49e4ed83915a6f5ba270f4fa3569a60367dc1", func := "emissary/emissarylaw9.UnifyMost", spec := "unifyMost", unfollowed := true, recurses := true, loops := true, apart := false }
def UnifyMostSaid : Prop := unifyMostRow.holds Try.pinned (OpenSpec.ofChange unifyMostSpec)

/-- ITS FALSE NEIGHBOUR: 'it returns false'. Refute it at one input. -/
def unifyMostWrong : ChangeSpec := { name := "unifyMost", fn := fun _ => fun
  | [d1, d2] => { results := [.lit (.bool false)], args := [d1, d2] }
  | _ => none }
def UnifyMostWrongFalsely : Prop := unifyMostRow.holds Try.pinned (OpenSpec.ofChange unifyMostWrong)

/-- 'emissarylaw9.UnifyOdd': WHATEVER THE INPUT: true; the input reads as it did. -/
def unifyOddSpec : ChangeSpec := { name := "unifyOdd", fn := fun _ => fun
  | [d] => { results := [.lit (.bool true)], args := [d] }
  | _ => none }
def unifyOddRow : OpenClaim := { program := "ytiifjjcoepgobaa", sum := "d91c2a5e8ce1fd1bfb9cf4bebef49e4ed83915a6f5ba270f4fa3569a60367dc1", func := "emissary/emissarylaw9.UnifyOdd", spec := "unifyOdd", unfollowed := true, recurses := true, apart := false }
def UnifyOddSaid : Prop := unifyOddRow.holds Try.pinned (OpenSpec.ofChange unifyOddSpec)

/-- ITS FALSE NEIGHBOUR: 'it returns false'. Refute it at one input. -/
def unifyOddWrong : ChangeSpec := { name := "unifyOdd", fn := fun _ => fun
  | [d] => { results := [.lit (.bool false)], args := [d] }
  | _ => none }
def UnifyOddWrongFalsely : Prop := unifyOddRow.holds Try.pinned (OpenSpec.ofChange unifyOddWrong)

/- THE SECOND FORM. 'bulk': how many values and letters a reading holds, each counted each time it is reached (what is shared counts as often as it is met; a slice's spare places count too). A statement '..UptoSaid' is the law's where the arguments, and the package variables that the reading takes, are together of bulk at most 1048576: NARROWER than '..Said'. Prove '..Said' where nothing that the law and all that it calls make is longer than what came in: it says more and counts as full. Else prove '..UptoSaid'. A law counts once. -/
mutual
def uptoBulk {H : Type} : DataW H → Nat
  | .lit (.string bytes) => bytes.length + 1
  | .lit _ => 1
  | .nil => 1
  | .ptr d => uptoBulk d + 1
  | .slice elems spare => uptoBulkAll elems + uptoBulkAll spare + 1
  | .agg parts => uptoBulkAll parts + 1
  | .iface _ d => uptoBulk d + 1
  | .map entries => uptoBulkEntries entries + 1
  | .held _ => 1
def uptoBulkAll {H : Type} : List (DataW H) → Nat
  | [] => 0
  | d :: r => uptoBulk d + uptoBulkAll r
def uptoBulkEntries {H : Type} : List (Lit × DataW H) → Nat
  | [] => 0
  | x :: r => uptoBulkEntry x + uptoBulkEntries r
def uptoBulkEntry {H : Type} : Lit × DataW H → Nat
  | (.string bytes, d) => bytes.length + uptoBulk d + 1
  | (_, d) => uptoBulk d + 1
 end
def uptoSmall : (H : Type) → List (DataW H) → Bool := fun _ ds => decide (uptoBulkAll ds ≤ 1048576)
def OpenSpec.upto (s : _root_.Go.ChangeSpec) : _root_.Go.OpenSpec := { _root_.Go.OpenSpec.ofChange s with cond := some uptoSmall }

/-- 'emissarylaw9.UnifyMakes', WHERE WHAT IT READS IS OF BULK AT MOST 1048576: true; the input reads as it did. -/
def unifyMakesUptoRow : OpenClaim := { program := "ytiifjjcoepgobaa", sum := "d91c2a5e8ce1fd1bfb9cf4bebef49e4ed83915a6f5ba270f4fa3569a60367dc1", func := "emissary/emissarylaw9.UnifyMakes", spec := "unifyMakes", unfollowed := true, recurses := true, loops := true, apart := false, narrowed := true }
def UnifyMakesUptoSaid : Prop := unifyMakesUptoRow.holds Try.pinned (OpenSpec.upto unifyMakesSpec)

/-- 'emissarylaw9.UnifyFresh', WHERE WHAT IT READS IS OF BULK AT MOST 1048576: true; the input reads as it did. -/
def unifyFreshUptoRow : OpenClaim := { program := "ytiifjjcoepgobaa", sum := "d91c2a5e8ce1fd1bfb9cf4bebef49e4ed83915a6f5ba270f4fa3569a60367dc1", func := "emissary/emissarylaw9.UnifyFresh", spec := "unifyFresh", unfollowed := true, recurses := true, loops := true, apart := false, narrowed := true }
def UnifyFreshUptoSaid : Prop := unifyFreshUptoRow.holds Try.pinned (OpenSpec.upto unifyFreshSpec)

/-- 'emissarylaw9.UnifyWithin', WHERE WHAT IT READS IS OF BULK AT MOST 1048576: true; the input reads as it did. -/
def unifyWithinUptoRow : OpenClaim := { program := "ytiifjjcoepgobaa", sum := "d91c2a5e8ce1fd1bfb9cf4bebef49e4ed83915a6f5ba270f4fa3569a60367dc1", func := "emissary/emissarylaw9.UnifyWithin", spec := "unifyWithin", unfollowed := true, recurses := true, loops := true, apart := false, narrowed := true }
def UnifyWithinUptoSaid : Prop := unifyWithinUptoRow.holds Try.pinned (OpenSpec.upto unifyWithinSpec)

/-- 'emissarylaw9.UnifyMost', WHERE WHAT IT READS IS OF BULK AT MOST 1048576: true; the input reads as it did. -/
def unifyMostUptoRow : OpenClaim := { program := "ytiifjjcoepgobaa", sum := "d91c2a5e8ce1fd1bfb9cf4bebef49e4ed83915a6f5ba270f4fa3569a60367dc1", func := "emissary/emissarylaw9.UnifyMost", spec := "unifyMost", unfollowed := true, recurses := true, loops := true, apart := false, narrowed := true }
def UnifyMostUptoSaid : Prop := unifyMostUptoRow.holds Try.pinned (OpenSpec.upto unifyMostSpec)

/-- 'emissarylaw9.UnifyOdd', WHERE WHAT IT READS IS OF BULK AT MOST 1048576: true; the input reads as it did. -/
def unifyOddUptoRow : OpenClaim := { program := "ytiifjjcoepgobaa", sum := "d91c2a5e8ce1fd1bfb9cf4bebef49e4ed83915a6f5ba270f4fa3569a60367dc1", func := "emissary/emissarylaw9.UnifyOdd", spec := "unifyOdd", unfollowed := true, recurses := true, apart := false, narrowed := true }
def UnifyOddUptoSaid : Prop := unifyOddUptoRow.holds Try.pinned (OpenSpec.upto unifyOddSpec)

end Rows
end Go.Proofs.Ytiifjjcoepgobaa
