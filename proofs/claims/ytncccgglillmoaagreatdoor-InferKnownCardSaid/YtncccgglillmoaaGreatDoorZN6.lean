/- Calls that are known: texts that are parsed, their types. -/
import Derived.Test.YtncccgglillmoaaGreatDoorZI
set_option autoImplicit false
set_option maxRecDepth 100000
namespace Go.Proofs.YtncccgglillmoaaGreatDoor.ZN
open Go Go.Ev Go.Proofs.YtncccgglillmoaaGreatDoor.Env
def s4 : AV := .str [108, 101, 116, 32, 114, 101, 99, 32, 102, 32, 120, 32, 61, 32, 109, 97, 116, 99, 104, 32, 120, 32, 119, 105, 116, 104, 32, 91, 93, 32, 45, 62, 32, 48, 32, 124, 32, 104, 32, 58, 58, 32, 116, 32, 45, 62, 32, 49, 32, 43, 32, 102, 32, 116, 32, 105, 110, 32, 102]
def n4 : AV := AV.agg [AV.str [114, 101, 99], AV.str [102], AV.str [120], AV.int IntKind.i64 (Int.ofNat 0), AV.int IntKind.i64 (Int.ofNat 0), AV.sl Own.no [AV.agg [AV.str [109, 97, 116, 99, 104], AV.str [104], AV.str [116], AV.int IntKind.i64 (Int.ofNat 0), AV.int IntKind.i64 (Int.ofNat 14), AV.sl Own.no [AV.agg [AV.str [118, 97, 114], AV.str [120], AV.str [], AV.int IntKind.i64 (Int.ofNat 0), AV.int IntKind.i64 (Int.ofNat 20), AV.sl Own.no []], AV.agg [AV.str [105, 110, 116], AV.str [], AV.str [], AV.int IntKind.i64 (Int.ofNat 0), AV.int IntKind.i64 (Int.ofNat 33), AV.sl Own.no []], AV.agg [AV.str [97, 100, 100], AV.str [], AV.str [], AV.int IntKind.i64 (Int.ofNat 0), AV.int IntKind.i64 (Int.ofNat 49), AV.sl Own.no [AV.agg [AV.str [105, 110, 116], AV.str [], AV.str [], AV.int IntKind.i64 (Int.ofNat 1), AV.int IntKind.i64 (Int.ofNat 47), AV.sl Own.no []], AV.agg [AV.str [97, 112, 112], AV.str [], AV.str [], AV.int IntKind.i64 (Int.ofNat 0), AV.int IntKind.i64 (Int.ofNat 53), AV.sl Own.no [AV.agg [AV.str [118, 97, 114], AV.str [102], AV.str [], AV.int IntKind.i64 (Int.ofNat 0), AV.int IntKind.i64 (Int.ofNat 51), AV.sl Own.no []], AV.agg [AV.str [118, 97, 114], AV.str [116], AV.str [], AV.int IntKind.i64 (Int.ofNat 0), AV.int IntKind.i64 (Int.ofNat 53), AV.sl Own.no []]]]]]]], AV.agg [AV.str [118, 97, 114], AV.str [102], AV.str [], AV.int IntKind.i64 (Int.ofNat 0), AV.int IntKind.i64 (Int.ofNat 58), AV.sl Own.no []]]]
def p4 : AV := AV.tup [n4, AV.int IntKind.i64 (Int.ofNat 59), AV.int IntKind.i64 (Int.ofNat 0)]
theorem hp4 : runIs envI 300 9 60 [s4] p4 = true := by kernel_rfl
def o4 : AV := AV.tup [AV.agg [AV.str [102, 117, 110], AV.int IntKind.i64 (Int.ofNat 0), AV.sl Own.no [AV.agg [AV.str [108, 105, 115, 116], AV.int IntKind.i64 (Int.ofNat 0), AV.sl Own.no [AV.agg [AV.str [118, 97, 114], AV.int IntKind.i64 (Int.ofNat 0), AV.sl Own.no []]]], AV.agg [AV.str [105, 110, 116], AV.int IntKind.i64 (Int.ofNat 0), AV.sl Own.no []]]], AV.int IntKind.i64 (Int.ofNat 0), AV.int IntKind.i64 (Int.ofNat 0)]
theorem ho4 : runIs envI 300 12 60 [n4] o4 = true := by kernel_rfl
end Go.Proofs.YtncccgglillmoaaGreatDoor.ZN
/- Calls that are known: texts that are parsed, their types. -/
set_option autoImplicit false
set_option maxRecDepth 100000
namespace Go.Proofs.YtncccgglillmoaaGreatDoor.ZN
open Go Go.Ev Go.Proofs.YtncccgglillmoaaGreatDoor.Env
def s5 : AV := .str [102, 117, 110, 32, 120, 32, 45, 62, 32, 114, 97, 105, 115, 101, 32, 120]
def n5 : AV := AV.agg [AV.str [102, 117, 110], AV.str [120], AV.str [], AV.int IntKind.i64 (Int.ofNat 0), AV.int IntKind.i64 (Int.ofNat 0), AV.sl Own.no [AV.agg [AV.str [114, 97, 105, 115, 101], AV.str [], AV.str [], AV.int IntKind.i64 (Int.ofNat 0), AV.int IntKind.i64 (Int.ofNat 9), AV.sl Own.no [AV.agg [AV.str [118, 97, 114], AV.str [120], AV.str [], AV.int IntKind.i64 (Int.ofNat 0), AV.int IntKind.i64 (Int.ofNat 15), AV.sl Own.no []]]]]]
def p5 : AV := AV.tup [n5, AV.int IntKind.i64 (Int.ofNat 16), AV.int IntKind.i64 (Int.ofNat 0)]
theorem hp5 : runIs envI 300 9 60 [s5] p5 = true := by kernel_rfl
def o5 : AV := AV.tup [AV.agg [AV.str [102, 117, 110], AV.int IntKind.i64 (Int.ofNat 0), AV.sl Own.no [AV.agg [AV.str [105, 110, 116], AV.int IntKind.i64 (Int.ofNat 0), AV.sl Own.no []], AV.agg [AV.str [118, 97, 114], AV.int IntKind.i64 (Int.ofNat 0), AV.sl Own.no []]]], AV.int IntKind.i64 (Int.ofNat 0), AV.int IntKind.i64 (Int.ofNat 0)]
theorem ho5 : runIs envI 300 12 60 [n5] o5 = true := by kernel_rfl
end Go.Proofs.YtncccgglillmoaaGreatDoor.ZN
/- Calls that are known: texts that are parsed, their types. -/
set_option autoImplicit false
set_option maxRecDepth 100000
namespace Go.Proofs.YtncccgglillmoaaGreatDoor.ZN
open Go Go.Ev Go.Proofs.YtncccgglillmoaaGreatDoor.Env
def s6 : AV := .str [116, 114, 121, 32, 114, 97, 105, 115, 101, 32, 49, 32, 119, 105, 116, 104, 32, 120, 32, 45, 62, 32, 120, 32, 43, 32, 49]
def n6 : AV := AV.agg [AV.str [116, 114, 121], AV.str [120], AV.str [], AV.int IntKind.i64 (Int.ofNat 0), AV.int IntKind.i64 (Int.ofNat 0), AV.sl Own.no [AV.agg [AV.str [114, 97, 105, 115, 101], AV.str [], AV.str [], AV.int IntKind.i64 (Int.ofNat 0), AV.int IntKind.i64 (Int.ofNat 4), AV.sl Own.no [AV.agg [AV.str [105, 110, 116], AV.str [], AV.str [], AV.int IntKind.i64 (Int.ofNat 1), AV.int IntKind.i64 (Int.ofNat 10), AV.sl Own.no []]]], AV.agg [AV.str [97, 100, 100], AV.str [], AV.str [], AV.int IntKind.i64 (Int.ofNat 0), AV.int IntKind.i64 (Int.ofNat 24), AV.sl Own.no [AV.agg [AV.str [118, 97, 114], AV.str [120], AV.str [], AV.int IntKind.i64 (Int.ofNat 0), AV.int IntKind.i64 (Int.ofNat 22), AV.sl Own.no []], AV.agg [AV.str [105, 110, 116], AV.str [], AV.str [], AV.int IntKind.i64 (Int.ofNat 1), AV.int IntKind.i64 (Int.ofNat 26), AV.sl Own.no []]]]]]
def p6 : AV := AV.tup [n6, AV.int IntKind.i64 (Int.ofNat 27), AV.int IntKind.i64 (Int.ofNat 0)]
theorem hp6 : runIs envI 300 9 60 [s6] p6 = true := by kernel_rfl
def o6 : AV := AV.tup [AV.agg [AV.str [105, 110, 116], AV.int IntKind.i64 (Int.ofNat 0), AV.sl Own.no []], AV.int IntKind.i64 (Int.ofNat 0), AV.int IntKind.i64 (Int.ofNat 0)]
theorem ho6 : runIs envI 300 12 60 [n6] o6 = true := by kernel_rfl
end Go.Proofs.YtncccgglillmoaaGreatDoor.ZN
