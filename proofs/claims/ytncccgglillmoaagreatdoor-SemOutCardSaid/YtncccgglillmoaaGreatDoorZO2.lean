/- Calls that are known: texts that are parsed, their types. -/
import Derived.Test.YtncccgglillmoaaGreatDoorZE
set_option autoImplicit false
set_option maxRecDepth 100000
namespace Go.Proofs.YtncccgglillmoaaGreatDoor.ZO
open Go Go.Ev Go.Proofs.YtncccgglillmoaaGreatDoor.Env
def s4 : AV := .str [116, 114, 121, 32, 40, 112, 114, 105, 110, 116, 32, 34, 113, 34, 59, 32, 114, 97, 105, 115, 101, 32, 52, 41, 32, 119, 105, 116, 104, 32, 120, 32, 45, 62, 32, 112, 114, 105, 110, 116, 32, 34, 114, 34]
def n4 : AV := AV.agg [AV.str [116, 114, 121], AV.str [120], AV.str [], AV.int IntKind.i64 (Int.ofNat 0), AV.int IntKind.i64 (Int.ofNat 0), AV.sl Own.no [AV.agg [AV.str [115, 101, 113], AV.str [], AV.str [], AV.int IntKind.i64 (Int.ofNat 0), AV.int IntKind.i64 (Int.ofNat 14), AV.sl Own.no [AV.agg [AV.str [112, 114, 105, 110, 116], AV.str [], AV.str [], AV.int IntKind.i64 (Int.ofNat 0), AV.int IntKind.i64 (Int.ofNat 5), AV.sl Own.no [AV.agg [AV.str [115, 116, 114], AV.str [113], AV.str [], AV.int IntKind.i64 (Int.ofNat 0), AV.int IntKind.i64 (Int.ofNat 11), AV.sl Own.no []]]], AV.agg [AV.str [114, 97, 105, 115, 101], AV.str [], AV.str [], AV.int IntKind.i64 (Int.ofNat 0), AV.int IntKind.i64 (Int.ofNat 16), AV.sl Own.no [AV.agg [AV.str [105, 110, 116], AV.str [], AV.str [], AV.int IntKind.i64 (Int.ofNat 4), AV.int IntKind.i64 (Int.ofNat 22), AV.sl Own.no []]]]]], AV.agg [AV.str [112, 114, 105, 110, 116], AV.str [], AV.str [], AV.int IntKind.i64 (Int.ofNat 0), AV.int IntKind.i64 (Int.ofNat 35), AV.sl Own.no [AV.agg [AV.str [115, 116, 114], AV.str [114], AV.str [], AV.int IntKind.i64 (Int.ofNat 0), AV.int IntKind.i64 (Int.ofNat 41), AV.sl Own.no []]]]]]
def p4 : AV := AV.tup [n4, AV.int IntKind.i64 (Int.ofNat 44), AV.int IntKind.i64 (Int.ofNat 0)]
theorem hp4 : runIs env1 300 9 60 [s4] p4 = true := by kernel_rfl
def o4 : AV := AV.tup [AV.agg [AV.str [117, 110, 105, 116], AV.int IntKind.i64 (Int.ofNat 0), AV.sl Own.no []], AV.int IntKind.i64 (Int.ofNat 0), AV.int IntKind.i64 (Int.ofNat 0)]
theorem ho4 : runIs env1 300 12 60 [n4] o4 = true := by kernel_rfl
def s5 : AV := .str [108, 101, 116, 32, 102, 32, 61, 32, 102, 117, 110, 32, 120, 32, 45, 62, 32, 112, 114, 105, 110, 116, 32, 34, 110, 34, 32, 105, 110, 32, 53]
def n5 : AV := AV.agg [AV.str [108, 101, 116], AV.str [102], AV.str [], AV.int IntKind.i64 (Int.ofNat 0), AV.int IntKind.i64 (Int.ofNat 0), AV.sl Own.no [AV.agg [AV.str [102, 117, 110], AV.str [120], AV.str [], AV.int IntKind.i64 (Int.ofNat 0), AV.int IntKind.i64 (Int.ofNat 8), AV.sl Own.no [AV.agg [AV.str [112, 114, 105, 110, 116], AV.str [], AV.str [], AV.int IntKind.i64 (Int.ofNat 0), AV.int IntKind.i64 (Int.ofNat 17), AV.sl Own.no [AV.agg [AV.str [115, 116, 114], AV.str [110], AV.str [], AV.int IntKind.i64 (Int.ofNat 0), AV.int IntKind.i64 (Int.ofNat 23), AV.sl Own.no []]]]]], AV.agg [AV.str [105, 110, 116], AV.str [], AV.str [], AV.int IntKind.i64 (Int.ofNat 5), AV.int IntKind.i64 (Int.ofNat 30), AV.sl Own.no []]]]
def p5 : AV := AV.tup [n5, AV.int IntKind.i64 (Int.ofNat 31), AV.int IntKind.i64 (Int.ofNat 0)]
theorem hp5 : runIs env1 300 9 60 [s5] p5 = true := by kernel_rfl
def o5 : AV := AV.tup [AV.agg [AV.str [105, 110, 116], AV.int IntKind.i64 (Int.ofNat 0), AV.sl Own.no []], AV.int IntKind.i64 (Int.ofNat 0), AV.int IntKind.i64 (Int.ofNat 0)]
theorem ho5 : runIs env1 300 12 60 [n5] o5 = true := by kernel_rfl
end Go.Proofs.YtncccgglillmoaaGreatDoor.ZO
