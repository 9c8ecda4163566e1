/- Calls that are known: texts that are parsed, their types. -/
import Derived.Test.YtncccgglillmoaaGreatDoorZI
set_option autoImplicit false
set_option maxRecDepth 100000
namespace Go.Proofs.YtncccgglillmoaaGreatDoor.ZN
open Go Go.Ev Go.Proofs.YtncccgglillmoaaGreatDoor.Env
def s7 : AV := .str [108, 101, 116, 32, 102, 32, 61, 32, 102, 117, 110, 32, 120, 32, 45, 62, 32, 40, 102, 115, 116, 32, 120, 44, 32, 115, 110, 100, 32, 120, 41, 32, 105, 110, 32, 102]
def n7 : AV := AV.agg [AV.str [108, 101, 116], AV.str [102], AV.str [], AV.int IntKind.i64 (Int.ofNat 0), AV.int IntKind.i64 (Int.ofNat 0), AV.sl Own.no [AV.agg [AV.str [102, 117, 110], AV.str [120], AV.str [], AV.int IntKind.i64 (Int.ofNat 0), AV.int IntKind.i64 (Int.ofNat 8), AV.sl Own.no [AV.agg [AV.str [112, 97, 105, 114], AV.str [], AV.str [], AV.int IntKind.i64 (Int.ofNat 0), AV.int IntKind.i64 (Int.ofNat 17), AV.sl Own.no [AV.agg [AV.str [102, 115, 116], AV.str [], AV.str [], AV.int IntKind.i64 (Int.ofNat 0), AV.int IntKind.i64 (Int.ofNat 18), AV.sl Own.no [AV.agg [AV.str [118, 97, 114], AV.str [120], AV.str [], AV.int IntKind.i64 (Int.ofNat 0), AV.int IntKind.i64 (Int.ofNat 22), AV.sl Own.no []]]], AV.agg [AV.str [115, 110, 100], AV.str [], AV.str [], AV.int IntKind.i64 (Int.ofNat 0), AV.int IntKind.i64 (Int.ofNat 25), AV.sl Own.no [AV.agg [AV.str [118, 97, 114], AV.str [120], AV.str [], AV.int IntKind.i64 (Int.ofNat 0), AV.int IntKind.i64 (Int.ofNat 29), AV.sl Own.no []]]]]]]], AV.agg [AV.str [118, 97, 114], AV.str [102], AV.str [], AV.int IntKind.i64 (Int.ofNat 0), AV.int IntKind.i64 (Int.ofNat 35), AV.sl Own.no []]]]
def p7 : AV := AV.tup [n7, AV.int IntKind.i64 (Int.ofNat 36), AV.int IntKind.i64 (Int.ofNat 0)]
theorem hp7 : runIs envI 300 9 60 [s7] p7 = true := by kernel_rfl
def o7 : AV := AV.tup [AV.agg [AV.str [102, 117, 110], AV.int IntKind.i64 (Int.ofNat 0), AV.sl Own.no [AV.agg [AV.str [112, 97, 105, 114], AV.int IntKind.i64 (Int.ofNat 0), AV.sl Own.no [AV.agg [AV.str [118, 97, 114], AV.int IntKind.i64 (Int.ofNat 0), AV.sl Own.no []], AV.agg [AV.str [118, 97, 114], AV.int IntKind.i64 (Int.ofNat 1), AV.sl Own.no []]]], AV.agg [AV.str [112, 97, 105, 114], AV.int IntKind.i64 (Int.ofNat 0), AV.sl Own.no [AV.agg [AV.str [118, 97, 114], AV.int IntKind.i64 (Int.ofNat 0), AV.sl Own.no []], AV.agg [AV.str [118, 97, 114], AV.int IntKind.i64 (Int.ofNat 1), AV.sl Own.no []]]]]], AV.int IntKind.i64 (Int.ofNat 0), AV.int IntKind.i64 (Int.ofNat 0)]
theorem ho7 : runIs envI 300 12 60 [n7] o7 = true := by kernel_rfl
end Go.Proofs.YtncccgglillmoaaGreatDoor.ZN
/- Calls that are known: texts that are parsed, their types. -/
set_option autoImplicit false
set_option maxRecDepth 100000
namespace Go.Proofs.YtncccgglillmoaaGreatDoor.ZN
open Go Go.Ev Go.Proofs.YtncccgglillmoaaGreatDoor.Env
def s8 : AV := .str [114, 101, 102, 32, 91, 93]
def n8 : AV := AV.agg [AV.str [114, 101, 102], AV.str [], AV.str [], AV.int IntKind.i64 (Int.ofNat 0), AV.int IntKind.i64 (Int.ofNat 0), AV.sl Own.no [AV.agg [AV.str [110, 105, 108], AV.str [], AV.str [], AV.int IntKind.i64 (Int.ofNat 0), AV.int IntKind.i64 (Int.ofNat 4), AV.sl Own.no []]]]
def p8 : AV := AV.tup [n8, AV.int IntKind.i64 (Int.ofNat 6), AV.int IntKind.i64 (Int.ofNat 0)]
theorem hp8 : runIs envI 300 9 60 [s8] p8 = true := by kernel_rfl
def o8 : AV := AV.tup [AV.agg [AV.str [114, 101, 102], AV.int IntKind.i64 (Int.ofNat 0), AV.sl Own.no [AV.agg [AV.str [108, 105, 115, 116], AV.int IntKind.i64 (Int.ofNat 0), AV.sl Own.no [AV.agg [AV.str [118, 97, 114], AV.int IntKind.i64 (Int.ofNat 0), AV.sl Own.no []]]]]], AV.int IntKind.i64 (Int.ofNat 0), AV.int IntKind.i64 (Int.ofNat 0)]
theorem ho8 : runIs envI 300 12 60 [n8] o8 = true := by kernel_rfl
end Go.Proofs.YtncccgglillmoaaGreatDoor.ZN
/- Calls that are known: texts that are parsed, their types. -/
set_option autoImplicit false
set_option maxRecDepth 100000
namespace Go.Proofs.YtncccgglillmoaaGreatDoor.ZN
open Go Go.Ev Go.Proofs.YtncccgglillmoaaGreatDoor.Env
def s9 : AV := .str [102, 117, 110, 32, 99, 32, 45, 62, 32, 108, 105, 110, 107, 32, 99, 32, 40, 99, 32, 58, 58, 32, 108, 105, 110, 107, 115, 32, 99, 41]
def n9 : AV := AV.agg [AV.str [102, 117, 110], AV.str [99], AV.str [], AV.int IntKind.i64 (Int.ofNat 0), AV.int IntKind.i64 (Int.ofNat 0), AV.sl Own.no [AV.agg [AV.str [108, 105, 110, 107], AV.str [], AV.str [], AV.int IntKind.i64 (Int.ofNat 0), AV.int IntKind.i64 (Int.ofNat 9), AV.sl Own.no [AV.agg [AV.str [118, 97, 114], AV.str [99], AV.str [], AV.int IntKind.i64 (Int.ofNat 0), AV.int IntKind.i64 (Int.ofNat 14), AV.sl Own.no []], AV.agg [AV.str [99, 111, 110, 115], AV.str [], AV.str [], AV.int IntKind.i64 (Int.ofNat 0), AV.int IntKind.i64 (Int.ofNat 19), AV.sl Own.no [AV.agg [AV.str [118, 97, 114], AV.str [99], AV.str [], AV.int IntKind.i64 (Int.ofNat 0), AV.int IntKind.i64 (Int.ofNat 17), AV.sl Own.no []], AV.agg [AV.str [108, 105, 110, 107, 115], AV.str [], AV.str [], AV.int IntKind.i64 (Int.ofNat 0), AV.int IntKind.i64 (Int.ofNat 22), AV.sl Own.no [AV.agg [AV.str [118, 97, 114], AV.str [99], AV.str [], AV.int IntKind.i64 (Int.ofNat 0), AV.int IntKind.i64 (Int.ofNat 28), AV.sl Own.no []]]]]]]]]]
def p9 : AV := AV.tup [n9, AV.int IntKind.i64 (Int.ofNat 30), AV.int IntKind.i64 (Int.ofNat 0)]
theorem hp9 : runIs envI 300 9 60 [s9] p9 = true := by kernel_rfl
def o9 : AV := AV.tup [AV.agg [AV.str [102, 117, 110], AV.int IntKind.i64 (Int.ofNat 0), AV.sl Own.no [AV.agg [AV.str [99, 101, 108, 108], AV.int IntKind.i64 (Int.ofNat 0), AV.sl Own.no []], AV.agg [AV.str [117, 110, 105, 116], AV.int IntKind.i64 (Int.ofNat 0), AV.sl Own.no []]]], AV.int IntKind.i64 (Int.ofNat 0), AV.int IntKind.i64 (Int.ofNat 0)]
theorem ho9 : runIs envI 300 12 60 [n9] o9 = true := by kernel_rfl
end Go.Proofs.YtncccgglillmoaaGreatDoor.ZN
