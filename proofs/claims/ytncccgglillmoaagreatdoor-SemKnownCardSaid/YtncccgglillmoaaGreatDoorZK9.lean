/- Calls that are known: texts that are parsed, their types. -/
import Derived.Test.YtncccgglillmoaaGreatDoorZE
set_option autoImplicit false
set_option maxRecDepth 100000
namespace Go.Proofs.YtncccgglillmoaaGreatDoor.ZK
open Go Go.Ev Go.Proofs.YtncccgglillmoaaGreatDoor.Env
def s8 : AV := .str [105, 102, 32, 50, 32, 60, 32, 49, 32, 116, 104, 101, 110, 32, 49, 32, 101, 108, 115, 101, 32, 48, 32, 45, 32, 56]
def n8 : AV := AV.agg [AV.str [105, 102], AV.str [], AV.str [], AV.int IntKind.i64 (Int.ofNat 0), AV.int IntKind.i64 (Int.ofNat 0), AV.sl Own.no [AV.agg [AV.str [108, 101, 115, 115], AV.str [], AV.str [], AV.int IntKind.i64 (Int.ofNat 0), AV.int IntKind.i64 (Int.ofNat 5), AV.sl Own.no [AV.agg [AV.str [105, 110, 116], AV.str [], AV.str [], AV.int IntKind.i64 (Int.ofNat 2), AV.int IntKind.i64 (Int.ofNat 3), AV.sl Own.no []], AV.agg [AV.str [105, 110, 116], AV.str [], AV.str [], AV.int IntKind.i64 (Int.ofNat 1), AV.int IntKind.i64 (Int.ofNat 7), AV.sl Own.no []]]], AV.agg [AV.str [105, 110, 116], AV.str [], AV.str [], AV.int IntKind.i64 (Int.ofNat 1), AV.int IntKind.i64 (Int.ofNat 14), AV.sl Own.no []], AV.agg [AV.str [115, 117, 98], AV.str [], AV.str [], AV.int IntKind.i64 (Int.ofNat 0), AV.int IntKind.i64 (Int.ofNat 23), AV.sl Own.no [AV.agg [AV.str [105, 110, 116], AV.str [], AV.str [], AV.int IntKind.i64 (Int.ofNat 0), AV.int IntKind.i64 (Int.ofNat 21), AV.sl Own.no []], AV.agg [AV.str [105, 110, 116], AV.str [], AV.str [], AV.int IntKind.i64 (Int.ofNat 8), AV.int IntKind.i64 (Int.ofNat 25), AV.sl Own.no []]]]]]
def p8 : AV := AV.tup [n8, AV.int IntKind.i64 (Int.ofNat 26), AV.int IntKind.i64 (Int.ofNat 0)]
theorem hp8 : runIs env1 300 9 60 [s8] p8 = true := by kernel_rfl
def o8 : AV := AV.tup [AV.agg [AV.str [105, 110, 116], AV.int IntKind.i64 (Int.ofNat 0), AV.sl Own.no []], AV.int IntKind.i64 (Int.ofNat 0), AV.int IntKind.i64 (Int.ofNat 0)]
theorem ho8 : runIs env1 300 12 60 [n8] o8 = true := by kernel_rfl
end Go.Proofs.YtncccgglillmoaaGreatDoor.ZK
/- Calls that are known: texts that are parsed, their types. -/
set_option autoImplicit false
set_option maxRecDepth 100000
namespace Go.Proofs.YtncccgglillmoaaGreatDoor.ZK
open Go Go.Ev Go.Proofs.YtncccgglillmoaaGreatDoor.Env
def s9 : AV := .str [52, 54, 49, 49, 54, 56, 54, 48, 49, 56, 52, 50, 55, 51, 56, 55, 57, 48, 51, 32, 43, 32, 49]
def n9 : AV := AV.agg [AV.str [], AV.str [], AV.str [], AV.int IntKind.i64 (Int.ofNat 0), AV.int IntKind.i64 (Int.ofNat 0), AV.sl Own.no []]
def p9 : AV := AV.tup [n9, AV.int IntKind.i64 (Int.ofNat 0), AV.int IntKind.i64 (Int.ofNat 2)]
theorem hp9 : runIs env1 300 9 60 [s9] p9 = true := by kernel_rfl
def o9 : AV := AV.tup [AV.agg [AV.str [], AV.int IntKind.i64 (Int.ofNat 0), AV.sl Own.no []], AV.int IntKind.i64 (Int.ofNat 0), AV.int IntKind.i64 (Int.ofNat 1)]
theorem ho9 : runIs env1 300 12 60 [n9] o9 = true := by kernel_rfl
end Go.Proofs.YtncccgglillmoaaGreatDoor.ZK
