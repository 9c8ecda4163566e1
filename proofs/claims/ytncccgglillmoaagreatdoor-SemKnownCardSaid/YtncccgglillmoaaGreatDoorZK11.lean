/- Calls that are known: texts that are parsed, their types. -/
import Derived.Test.YtncccgglillmoaaGreatDoorZE
set_option autoImplicit false
set_option maxRecDepth 100000
namespace Go.Proofs.YtncccgglillmoaaGreatDoor.ZK
open Go Go.Ev Go.Proofs.YtncccgglillmoaaGreatDoor.Env
def s10 : AV := .str [116, 114, 121, 32, 40, 116, 114, 121, 32, 114, 97, 105, 115, 101, 32, 49, 32, 119, 105, 116, 104, 32, 120, 32, 45, 62, 32, 114, 97, 105, 115, 101, 32, 40, 120, 32, 43, 32, 49, 41, 41, 32, 119, 105, 116, 104, 32, 121, 32, 45, 62, 32, 121, 32, 42, 32, 49, 48]
def n10 : AV := AV.agg [AV.str [116, 114, 121], AV.str [121], AV.str [], AV.int IntKind.i64 (Int.ofNat 0), AV.int IntKind.i64 (Int.ofNat 0), AV.sl Own.no [AV.agg [AV.str [116, 114, 121], AV.str [120], AV.str [], AV.int IntKind.i64 (Int.ofNat 0), AV.int IntKind.i64 (Int.ofNat 5), AV.sl Own.no [AV.agg [AV.str [114, 97, 105, 115, 101], AV.str [], AV.str [], AV.int IntKind.i64 (Int.ofNat 0), AV.int IntKind.i64 (Int.ofNat 9), AV.sl Own.no [AV.agg [AV.str [105, 110, 116], AV.str [], AV.str [], AV.int IntKind.i64 (Int.ofNat 1), AV.int IntKind.i64 (Int.ofNat 15), AV.sl Own.no []]]], AV.agg [AV.str [114, 97, 105, 115, 101], AV.str [], AV.str [], AV.int IntKind.i64 (Int.ofNat 0), AV.int IntKind.i64 (Int.ofNat 27), AV.sl Own.no [AV.agg [AV.str [97, 100, 100], AV.str [], AV.str [], AV.int IntKind.i64 (Int.ofNat 0), AV.int IntKind.i64 (Int.ofNat 36), AV.sl Own.no [AV.agg [AV.str [118, 97, 114], AV.str [120], AV.str [], AV.int IntKind.i64 (Int.ofNat 0), AV.int IntKind.i64 (Int.ofNat 34), AV.sl Own.no []], AV.agg [AV.str [105, 110, 116], AV.str [], AV.str [], AV.int IntKind.i64 (Int.ofNat 1), AV.int IntKind.i64 (Int.ofNat 38), AV.sl Own.no []]]]]]]], AV.agg [AV.str [109, 117, 108], AV.str [], AV.str [], AV.int IntKind.i64 (Int.ofNat 0), AV.int IntKind.i64 (Int.ofNat 54), AV.sl Own.no [AV.agg [AV.str [118, 97, 114], AV.str [121], AV.str [], AV.int IntKind.i64 (Int.ofNat 0), AV.int IntKind.i64 (Int.ofNat 52), AV.sl Own.no []], AV.agg [AV.str [105, 110, 116], AV.str [], AV.str [], AV.int IntKind.i64 (Int.ofNat 10), AV.int IntKind.i64 (Int.ofNat 56), AV.sl Own.no []]]]]]
def p10 : AV := AV.tup [n10, AV.int IntKind.i64 (Int.ofNat 58), AV.int IntKind.i64 (Int.ofNat 0)]
theorem hp10 : runIs env1 300 9 60 [s10] p10 = true := by kernel_rfl
def o10 : AV := AV.tup [AV.agg [AV.str [105, 110, 116], AV.int IntKind.i64 (Int.ofNat 0), AV.sl Own.no []], AV.int IntKind.i64 (Int.ofNat 0), AV.int IntKind.i64 (Int.ofNat 0)]
theorem ho10 : runIs env1 300 12 60 [n10] o10 = true := by kernel_rfl
end Go.Proofs.YtncccgglillmoaaGreatDoor.ZK
/- Calls that are known: texts that are parsed, their types. -/
set_option autoImplicit false
set_option maxRecDepth 100000
namespace Go.Proofs.YtncccgglillmoaaGreatDoor.ZK
open Go Go.Ev Go.Proofs.YtncccgglillmoaaGreatDoor.Env
def s11 : AV := .str [102, 115, 116, 32, 40, 49, 44, 32, 114, 97, 105, 115, 101, 32, 51, 41]
def n11 : AV := AV.agg [AV.str [102, 115, 116], AV.str [], AV.str [], AV.int IntKind.i64 (Int.ofNat 0), AV.int IntKind.i64 (Int.ofNat 0), AV.sl Own.no [AV.agg [AV.str [112, 97, 105, 114], AV.str [], AV.str [], AV.int IntKind.i64 (Int.ofNat 0), AV.int IntKind.i64 (Int.ofNat 4), AV.sl Own.no [AV.agg [AV.str [105, 110, 116], AV.str [], AV.str [], AV.int IntKind.i64 (Int.ofNat 1), AV.int IntKind.i64 (Int.ofNat 5), AV.sl Own.no []], AV.agg [AV.str [114, 97, 105, 115, 101], AV.str [], AV.str [], AV.int IntKind.i64 (Int.ofNat 0), AV.int IntKind.i64 (Int.ofNat 8), AV.sl Own.no [AV.agg [AV.str [105, 110, 116], AV.str [], AV.str [], AV.int IntKind.i64 (Int.ofNat 3), AV.int IntKind.i64 (Int.ofNat 14), AV.sl Own.no []]]]]]]]
def p11 : AV := AV.tup [n11, AV.int IntKind.i64 (Int.ofNat 16), AV.int IntKind.i64 (Int.ofNat 0)]
theorem hp11 : runIs env1 300 9 60 [s11] p11 = true := by kernel_rfl
def o11 : AV := AV.tup [AV.agg [AV.str [105, 110, 116], AV.int IntKind.i64 (Int.ofNat 0), AV.sl Own.no []], AV.int IntKind.i64 (Int.ofNat 0), AV.int IntKind.i64 (Int.ofNat 0)]
theorem ho11 : runIs env1 300 12 60 [n11] o11 = true := by kernel_rfl
end Go.Proofs.YtncccgglillmoaaGreatDoor.ZK
