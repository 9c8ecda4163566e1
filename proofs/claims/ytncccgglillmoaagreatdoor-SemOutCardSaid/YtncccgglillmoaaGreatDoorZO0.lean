/- Calls that are known: texts that are parsed, their types. -/
import Derived.Test.YtncccgglillmoaaGreatDoorZE
set_option autoImplicit false
set_option maxRecDepth 100000
namespace Go.Proofs.YtncccgglillmoaaGreatDoor.ZO
open Go Go.Ev Go.Proofs.YtncccgglillmoaaGreatDoor.Env
def s0 : AV := .str [112, 114, 105, 110, 116, 32, 34, 97, 34, 59, 32, 112, 114, 105, 110, 116, 32, 34, 98, 34]
def n0 : AV := AV.agg [AV.str [115, 101, 113], AV.str [], AV.str [], AV.int IntKind.i64 (Int.ofNat 0), AV.int IntKind.i64 (Int.ofNat 9), AV.sl Own.no [AV.agg [AV.str [112, 114, 105, 110, 116], AV.str [], AV.str [], AV.int IntKind.i64 (Int.ofNat 0), AV.int IntKind.i64 (Int.ofNat 0), AV.sl Own.no [AV.agg [AV.str [115, 116, 114], AV.str [97], AV.str [], AV.int IntKind.i64 (Int.ofNat 0), AV.int IntKind.i64 (Int.ofNat 6), AV.sl Own.no []]]], AV.agg [AV.str [112, 114, 105, 110, 116], AV.str [], AV.str [], AV.int IntKind.i64 (Int.ofNat 0), AV.int IntKind.i64 (Int.ofNat 11), AV.sl Own.no [AV.agg [AV.str [115, 116, 114], AV.str [98], AV.str [], AV.int IntKind.i64 (Int.ofNat 0), AV.int IntKind.i64 (Int.ofNat 17), AV.sl Own.no []]]]]]
def p0 : AV := AV.tup [n0, AV.int IntKind.i64 (Int.ofNat 20), AV.int IntKind.i64 (Int.ofNat 0)]
theorem hp0 : runIs env1 300 9 60 [s0] p0 = true := by kernel_rfl
def o0 : AV := AV.tup [AV.agg [AV.str [117, 110, 105, 116], AV.int IntKind.i64 (Int.ofNat 0), AV.sl Own.no []], AV.int IntKind.i64 (Int.ofNat 0), AV.int IntKind.i64 (Int.ofNat 0)]
theorem ho0 : runIs env1 300 12 60 [n0] o0 = true := by kernel_rfl
def s1 : AV := .str [112, 114, 105, 110, 116, 32, 40, 34, 97, 34, 32, 94, 32, 34, 98, 34, 41, 59, 32, 114, 97, 105, 115, 101, 32, 49, 59, 32, 112, 114, 105, 110, 116, 32, 34, 99, 34]
def n1 : AV := AV.agg [AV.str [115, 101, 113], AV.str [], AV.str [], AV.int IntKind.i64 (Int.ofNat 0), AV.int IntKind.i64 (Int.ofNat 17), AV.sl Own.no [AV.agg [AV.str [112, 114, 105, 110, 116], AV.str [], AV.str [], AV.int IntKind.i64 (Int.ofNat 0), AV.int IntKind.i64 (Int.ofNat 0), AV.sl Own.no [AV.agg [AV.str [99, 97, 116], AV.str [], AV.str [], AV.int IntKind.i64 (Int.ofNat 0), AV.int IntKind.i64 (Int.ofNat 11), AV.sl Own.no [AV.agg [AV.str [115, 116, 114], AV.str [97], AV.str [], AV.int IntKind.i64 (Int.ofNat 0), AV.int IntKind.i64 (Int.ofNat 7), AV.sl Own.no []], AV.agg [AV.str [115, 116, 114], AV.str [98], AV.str [], AV.int IntKind.i64 (Int.ofNat 0), AV.int IntKind.i64 (Int.ofNat 13), AV.sl Own.no []]]]]], AV.agg [AV.str [115, 101, 113], AV.str [], AV.str [], AV.int IntKind.i64 (Int.ofNat 0), AV.int IntKind.i64 (Int.ofNat 26), AV.sl Own.no [AV.agg [AV.str [114, 97, 105, 115, 101], AV.str [], AV.str [], AV.int IntKind.i64 (Int.ofNat 0), AV.int IntKind.i64 (Int.ofNat 19), AV.sl Own.no [AV.agg [AV.str [105, 110, 116], AV.str [], AV.str [], AV.int IntKind.i64 (Int.ofNat 1), AV.int IntKind.i64 (Int.ofNat 25), AV.sl Own.no []]]], AV.agg [AV.str [112, 114, 105, 110, 116], AV.str [], AV.str [], AV.int IntKind.i64 (Int.ofNat 0), AV.int IntKind.i64 (Int.ofNat 28), AV.sl Own.no [AV.agg [AV.str [115, 116, 114], AV.str [99], AV.str [], AV.int IntKind.i64 (Int.ofNat 0), AV.int IntKind.i64 (Int.ofNat 34), AV.sl Own.no []]]]]]]]
def p1 : AV := AV.tup [n1, AV.int IntKind.i64 (Int.ofNat 37), AV.int IntKind.i64 (Int.ofNat 0)]
theorem hp1 : runIs env1 300 9 60 [s1] p1 = true := by kernel_rfl
def o1 : AV := AV.tup [AV.agg [AV.str [117, 110, 105, 116], AV.int IntKind.i64 (Int.ofNat 0), AV.sl Own.no []], AV.int IntKind.i64 (Int.ofNat 0), AV.int IntKind.i64 (Int.ofNat 0)]
theorem ho1 : runIs env1 300 12 60 [n1] o1 = true := by kernel_rfl
end Go.Proofs.YtncccgglillmoaaGreatDoor.ZO
