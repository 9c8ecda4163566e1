/- Calls that are known: texts that are parsed, their types. -/
import Derived.Test.YtncccgglillmoaaGreatDoorZE
set_option autoImplicit false
set_option maxRecDepth 100000
namespace Go.Proofs.YtncccgglillmoaaGreatDoor.ZK
open Go Go.Ev Go.Proofs.YtncccgglillmoaaGreatDoor.Env
def s4 : AV := .str [115, 105, 122, 101, 32, 40, 34, 97, 98, 34, 32, 94, 32, 34, 99, 100, 101, 34, 41]
def n4 : AV := AV.agg [AV.str [115, 105, 122, 101], AV.str [], AV.str [], AV.int IntKind.i64 (Int.ofNat 0), AV.int IntKind.i64 (Int.ofNat 0), AV.sl Own.no [AV.agg [AV.str [99, 97, 116], AV.str [], AV.str [], AV.int IntKind.i64 (Int.ofNat 0), AV.int IntKind.i64 (Int.ofNat 11), AV.sl Own.no [AV.agg [AV.str [115, 116, 114], AV.str [97, 98], AV.str [], AV.int IntKind.i64 (Int.ofNat 0), AV.int IntKind.i64 (Int.ofNat 6), AV.sl Own.no []], AV.agg [AV.str [115, 116, 114], AV.str [99, 100, 101], AV.str [], AV.int IntKind.i64 (Int.ofNat 0), AV.int IntKind.i64 (Int.ofNat 13), AV.sl Own.no []]]]]]
def p4 : AV := AV.tup [n4, AV.int IntKind.i64 (Int.ofNat 19), AV.int IntKind.i64 (Int.ofNat 0)]
theorem hp4 : runIs env1 300 9 60 [s4] p4 = true := by kernel_rfl
def o4 : AV := AV.tup [AV.agg [AV.str [105, 110, 116], AV.int IntKind.i64 (Int.ofNat 0), AV.sl Own.no []], AV.int IntKind.i64 (Int.ofNat 0), AV.int IntKind.i64 (Int.ofNat 0)]
theorem ho4 : runIs env1 300 12 60 [n4] o4 = true := by kernel_rfl
end Go.Proofs.YtncccgglillmoaaGreatDoor.ZK
/- Calls that are known: texts that are parsed, their types. -/
set_option autoImplicit false
set_option maxRecDepth 100000
namespace Go.Proofs.YtncccgglillmoaaGreatDoor.ZK
open Go Go.Ev Go.Proofs.YtncccgglillmoaaGreatDoor.Env
def s5 : AV := .str [108, 101, 116, 32, 99, 32, 61, 32, 99, 101, 108, 108, 32, 52, 32, 105, 110, 32, 108, 105, 110, 107, 32, 99, 32, 40, 99, 32, 58, 58, 32, 91, 93, 41, 59, 32, 109, 97, 116, 99, 104, 32, 108, 105, 110, 107, 115, 32, 99, 32, 119, 105, 116, 104, 32, 91, 93, 32, 45, 62, 32, 48, 32, 124, 32, 120, 32, 58, 58, 32, 121, 32, 45, 62, 32, 116, 97, 103, 32, 120]
def n5 : AV := AV.agg [AV.str [108, 101, 116], AV.str [99], AV.str [], AV.int IntKind.i64 (Int.ofNat 0), AV.int IntKind.i64 (Int.ofNat 0), AV.sl Own.no [AV.agg [AV.str [99, 101, 108, 108], AV.str [], AV.str [], AV.int IntKind.i64 (Int.ofNat 0), AV.int IntKind.i64 (Int.ofNat 8), AV.sl Own.no [AV.agg [AV.str [105, 110, 116], AV.str [], AV.str [], AV.int IntKind.i64 (Int.ofNat 4), AV.int IntKind.i64 (Int.ofNat 13), AV.sl Own.no []]]], AV.agg [AV.str [115, 101, 113], AV.str [], AV.str [], AV.int IntKind.i64 (Int.ofNat 0), AV.int IntKind.i64 (Int.ofNat 34), AV.sl Own.no [AV.agg [AV.str [108, 105, 110, 107], AV.str [], AV.str [], AV.int IntKind.i64 (Int.ofNat 0), AV.int IntKind.i64 (Int.ofNat 18), AV.sl Own.no [AV.agg [AV.str [118, 97, 114], AV.str [99], AV.str [], AV.int IntKind.i64 (Int.ofNat 0), AV.int IntKind.i64 (Int.ofNat 23), AV.sl Own.no []], AV.agg [AV.str [99, 111, 110, 115], AV.str [], AV.str [], AV.int IntKind.i64 (Int.ofNat 0), AV.int IntKind.i64 (Int.ofNat 28), AV.sl Own.no [AV.agg [AV.str [118, 97, 114], AV.str [99], AV.str [], AV.int IntKind.i64 (Int.ofNat 0), AV.int IntKind.i64 (Int.ofNat 26), AV.sl Own.no []], AV.agg [AV.str [110, 105, 108], AV.str [], AV.str [], AV.int IntKind.i64 (Int.ofNat 0), AV.int IntKind.i64 (Int.ofNat 31), AV.sl Own.no []]]]]], AV.agg [AV.str [109, 97, 116, 99, 104], AV.str [120], AV.str [121], AV.int IntKind.i64 (Int.ofNat 0), AV.int IntKind.i64 (Int.ofNat 36), AV.sl Own.no [AV.agg [AV.str [108, 105, 110, 107, 115], AV.str [], AV.str [], AV.int IntKind.i64 (Int.ofNat 0), AV.int IntKind.i64 (Int.ofNat 42), AV.sl Own.no [AV.agg [AV.str [118, 97, 114], AV.str [99], AV.str [], AV.int IntKind.i64 (Int.ofNat 0), AV.int IntKind.i64 (Int.ofNat 48), AV.sl Own.no []]]], AV.agg [AV.str [105, 110, 116], AV.str [], AV.str [], AV.int IntKind.i64 (Int.ofNat 0), AV.int IntKind.i64 (Int.ofNat 61), AV.sl Own.no []], AV.agg [AV.str [116, 97, 103], AV.str [], AV.str [], AV.int IntKind.i64 (Int.ofNat 0), AV.int IntKind.i64 (Int.ofNat 75), AV.sl Own.no [AV.agg [AV.str [118, 97, 114], AV.str [120], AV.str [], AV.int IntKind.i64 (Int.ofNat 0), AV.int IntKind.i64 (Int.ofNat 79), AV.sl Own.no []]]]]]]]]]
def p5 : AV := AV.tup [n5, AV.int IntKind.i64 (Int.ofNat 80), AV.int IntKind.i64 (Int.ofNat 0)]
theorem hp5 : runIs env1 300 9 60 [s5] p5 = true := by kernel_rfl
def o5 : AV := AV.tup [AV.agg [AV.str [105, 110, 116], AV.int IntKind.i64 (Int.ofNat 0), AV.sl Own.no []], AV.int IntKind.i64 (Int.ofNat 0), AV.int IntKind.i64 (Int.ofNat 0)]
theorem ho5 : runIs env1 300 12 60 [n5] o5 = true := by kernel_rfl
end Go.Proofs.YtncccgglillmoaaGreatDoor.ZK
