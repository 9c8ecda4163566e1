/- Calls that are known: texts that are parsed, their types. -/
import Derived.Test.YtncccgglillmoaaGreatDoorZI
set_option autoImplicit false
set_option maxRecDepth 100000
namespace Go.Proofs.YtncccgglillmoaaGreatDoor.ZQ
open Go Go.Ev Go.Proofs.YtncccgglillmoaaGreatDoor.Env
def s4 : AV := .str [105, 102, 32, 49, 32, 116, 104, 101, 110, 32, 50, 32, 101, 108, 115, 101, 32, 51]
def n4 : AV := AV.agg [AV.str [105, 102], AV.str [], AV.str [], AV.int IntKind.i64 (Int.ofNat 0), AV.int IntKind.i64 (Int.ofNat 0), AV.sl Own.no [AV.agg [AV.str [105, 110, 116], AV.str [], AV.str [], AV.int IntKind.i64 (Int.ofNat 1), AV.int IntKind.i64 (Int.ofNat 3), AV.sl Own.no []], AV.agg [AV.str [105, 110, 116], AV.str [], AV.str [], AV.int IntKind.i64 (Int.ofNat 2), AV.int IntKind.i64 (Int.ofNat 10), AV.sl Own.no []], AV.agg [AV.str [105, 110, 116], AV.str [], AV.str [], AV.int IntKind.i64 (Int.ofNat 3), AV.int IntKind.i64 (Int.ofNat 17), AV.sl Own.no []]]]
def p4 : AV := AV.tup [n4, AV.int IntKind.i64 (Int.ofNat 18), AV.int IntKind.i64 (Int.ofNat 0)]
theorem hp4 : runIs envI 300 9 60 [s4] p4 = true := by kernel_rfl
def o4 : AV := AV.tup [AV.agg [AV.str [], AV.int IntKind.i64 (Int.ofNat 0), AV.sl Own.no []], AV.int IntKind.i64 (Int.ofNat 0), AV.int IntKind.i64 (Int.ofNat 5)]
theorem ho4 : runIs envI 300 12 60 [n4] o4 = true := by kernel_rfl
end Go.Proofs.YtncccgglillmoaaGreatDoor.ZQ
/- Calls that are known: texts that are parsed, their types. -/
set_option autoImplicit false
set_option maxRecDepth 100000
namespace Go.Proofs.YtncccgglillmoaaGreatDoor.ZQ
open Go Go.Ev Go.Proofs.YtncccgglillmoaaGreatDoor.Env
def s5 : AV := .str [49, 32, 58, 58, 32, 116, 114, 117, 101, 32, 58, 58, 32, 91, 93]
def n5 : AV := AV.agg [AV.str [99, 111, 110, 115], AV.str [], AV.str [], AV.int IntKind.i64 (Int.ofNat 0), AV.int IntKind.i64 (Int.ofNat 2), AV.sl Own.no [AV.agg [AV.str [105, 110, 116], AV.str [], AV.str [], AV.int IntKind.i64 (Int.ofNat 1), AV.int IntKind.i64 (Int.ofNat 0), AV.sl Own.no []], AV.agg [AV.str [99, 111, 110, 115], AV.str [], AV.str [], AV.int IntKind.i64 (Int.ofNat 0), AV.int IntKind.i64 (Int.ofNat 10), AV.sl Own.no [AV.agg [AV.str [98, 111, 111, 108], AV.str [], AV.str [], AV.int IntKind.i64 (Int.ofNat 1), AV.int IntKind.i64 (Int.ofNat 5), AV.sl Own.no []], AV.agg [AV.str [110, 105, 108], AV.str [], AV.str [], AV.int IntKind.i64 (Int.ofNat 0), AV.int IntKind.i64 (Int.ofNat 13), AV.sl Own.no []]]]]]
def p5 : AV := AV.tup [n5, AV.int IntKind.i64 (Int.ofNat 15), AV.int IntKind.i64 (Int.ofNat 0)]
theorem hp5 : runIs envI 300 9 60 [s5] p5 = true := by kernel_rfl
def o5 : AV := AV.tup [AV.agg [AV.str [], AV.int IntKind.i64 (Int.ofNat 0), AV.sl Own.no []], AV.int IntKind.i64 (Int.ofNat 2), AV.int IntKind.i64 (Int.ofNat 5)]
theorem ho5 : runIs envI 300 12 60 [n5] o5 = true := by kernel_rfl
end Go.Proofs.YtncccgglillmoaaGreatDoor.ZQ
/- Calls that are known: texts that are parsed, their types. -/
set_option autoImplicit false
set_option maxRecDepth 100000
namespace Go.Proofs.YtncccgglillmoaaGreatDoor.ZQ
open Go Go.Ev Go.Proofs.YtncccgglillmoaaGreatDoor.Env
def s6 : AV := .str [109, 97, 116, 99, 104, 32, 49, 32, 119, 105, 116, 104, 32, 91, 93, 32, 45, 62, 32, 50, 32, 124, 32, 120, 32, 58, 58, 32, 121, 32, 45, 62, 32, 51]
def n6 : AV := AV.agg [AV.str [109, 97, 116, 99, 104], AV.str [120], AV.str [121], AV.int IntKind.i64 (Int.ofNat 0), AV.int IntKind.i64 (Int.ofNat 0), AV.sl Own.no [AV.agg [AV.str [105, 110, 116], AV.str [], AV.str [], AV.int IntKind.i64 (Int.ofNat 1), AV.int IntKind.i64 (Int.ofNat 6), AV.sl Own.no []], AV.agg [AV.str [105, 110, 116], AV.str [], AV.str [], AV.int IntKind.i64 (Int.ofNat 2), AV.int IntKind.i64 (Int.ofNat 19), AV.sl Own.no []], AV.agg [AV.str [105, 110, 116], AV.str [], AV.str [], AV.int IntKind.i64 (Int.ofNat 3), AV.int IntKind.i64 (Int.ofNat 33), AV.sl Own.no []]]]
def p6 : AV := AV.tup [n6, AV.int IntKind.i64 (Int.ofNat 34), AV.int IntKind.i64 (Int.ofNat 0)]
theorem hp6 : runIs envI 300 9 60 [s6] p6 = true := by kernel_rfl
def o6 : AV := AV.tup [AV.agg [AV.str [], AV.int IntKind.i64 (Int.ofNat 0), AV.sl Own.no []], AV.int IntKind.i64 (Int.ofNat 0), AV.int IntKind.i64 (Int.ofNat 5)]
theorem ho6 : runIs envI 300 12 60 [n6] o6 = true := by kernel_rfl
end Go.Proofs.YtncccgglillmoaaGreatDoor.ZQ
/- Calls that are known: texts that are parsed, their types. -/
set_option autoImplicit false
set_option maxRecDepth 100000
namespace Go.Proofs.YtncccgglillmoaaGreatDoor.ZQ
open Go Go.Ev Go.Proofs.YtncccgglillmoaaGreatDoor.Env
def s7 : AV := .str [108, 101, 116, 32, 114, 101, 99, 32, 102, 32, 120, 32, 61, 32, 102, 32, 105, 110, 32, 102]
def n7 : AV := AV.agg [AV.str [114, 101, 99], AV.str [102], AV.str [120], AV.int IntKind.i64 (Int.ofNat 0), AV.int IntKind.i64 (Int.ofNat 0), AV.sl Own.no [AV.agg [AV.str [118, 97, 114], AV.str [102], AV.str [], AV.int IntKind.i64 (Int.ofNat 0), AV.int IntKind.i64 (Int.ofNat 14), AV.sl Own.no []], AV.agg [AV.str [118, 97, 114], AV.str [102], AV.str [], AV.int IntKind.i64 (Int.ofNat 0), AV.int IntKind.i64 (Int.ofNat 19), AV.sl Own.no []]]]
def p7 : AV := AV.tup [n7, AV.int IntKind.i64 (Int.ofNat 20), AV.int IntKind.i64 (Int.ofNat 0)]
theorem hp7 : runIs envI 300 9 60 [s7] p7 = true := by kernel_rfl
def o7 : AV := AV.tup [AV.agg [AV.str [], AV.int IntKind.i64 (Int.ofNat 0), AV.sl Own.no []], AV.int IntKind.i64 (Int.ofNat 0), AV.int IntKind.i64 (Int.ofNat 5)]
theorem ho7 : runIs envI 300 12 60 [n7] o7 = true := by kernel_rfl
end Go.Proofs.YtncccgglillmoaaGreatDoor.ZQ
