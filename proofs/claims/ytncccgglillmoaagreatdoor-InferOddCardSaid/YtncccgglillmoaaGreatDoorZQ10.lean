/- Calls that are known: texts that are parsed, their types. -/
import Derived.Test.YtncccgglillmoaaGreatDoorZI
set_option autoImplicit false
set_option maxRecDepth 100000
namespace Go.Proofs.YtncccgglillmoaaGreatDoor.ZQ
open Go Go.Ev Go.Proofs.YtncccgglillmoaaGreatDoor.Env
def s8 : AV := .str [40, 102, 117, 110, 32, 120, 32, 45, 62, 32, 121, 41, 32, 49]
def n8 : AV := AV.agg [AV.str [97, 112, 112], AV.str [], AV.str [], AV.int IntKind.i64 (Int.ofNat 0), AV.int IntKind.i64 (Int.ofNat 13), AV.sl Own.no [AV.agg [AV.str [102, 117, 110], AV.str [120], AV.str [], AV.int IntKind.i64 (Int.ofNat 0), AV.int IntKind.i64 (Int.ofNat 1), AV.sl Own.no [AV.agg [AV.str [118, 97, 114], AV.str [121], AV.str [], AV.int IntKind.i64 (Int.ofNat 0), AV.int IntKind.i64 (Int.ofNat 10), AV.sl Own.no []]]], AV.agg [AV.str [105, 110, 116], AV.str [], AV.str [], AV.int IntKind.i64 (Int.ofNat 1), AV.int IntKind.i64 (Int.ofNat 13), AV.sl Own.no []]]]
def p8 : AV := AV.tup [n8, AV.int IntKind.i64 (Int.ofNat 14), AV.int IntKind.i64 (Int.ofNat 0)]
theorem hp8 : runIs envI 300 9 60 [s8] p8 = true := by kernel_rfl
def o8 : AV := AV.tup [AV.agg [AV.str [], AV.int IntKind.i64 (Int.ofNat 0), AV.sl Own.no []], AV.int IntKind.i64 (Int.ofNat 10), AV.int IntKind.i64 (Int.ofNat 4)]
theorem ho8 : runIs envI 300 12 60 [n8] o8 = true := by kernel_rfl
end Go.Proofs.YtncccgglillmoaaGreatDoor.ZQ
/- Calls that are known: texts that are parsed, their types. -/
set_option autoImplicit false
set_option maxRecDepth 100000
namespace Go.Proofs.YtncccgglillmoaaGreatDoor.ZQ
open Go Go.Ev Go.Proofs.YtncccgglillmoaaGreatDoor.Env
def s9 : AV := .str [102, 115, 116, 32, 49]
def n9 : AV := AV.agg [AV.str [102, 115, 116], AV.str [], AV.str [], AV.int IntKind.i64 (Int.ofNat 0), AV.int IntKind.i64 (Int.ofNat 0), AV.sl Own.no [AV.agg [AV.str [105, 110, 116], AV.str [], AV.str [], AV.int IntKind.i64 (Int.ofNat 1), AV.int IntKind.i64 (Int.ofNat 4), AV.sl Own.no []]]]
def p9 : AV := AV.tup [n9, AV.int IntKind.i64 (Int.ofNat 5), AV.int IntKind.i64 (Int.ofNat 0)]
theorem hp9 : runIs envI 300 9 60 [s9] p9 = true := by kernel_rfl
def o9 : AV := AV.tup [AV.agg [AV.str [], AV.int IntKind.i64 (Int.ofNat 0), AV.sl Own.no []], AV.int IntKind.i64 (Int.ofNat 0), AV.int IntKind.i64 (Int.ofNat 5)]
theorem ho9 : runIs envI 300 12 60 [n9] o9 = true := by kernel_rfl
end Go.Proofs.YtncccgglillmoaaGreatDoor.ZQ
/- Calls that are known: texts that are parsed, their types. -/
set_option autoImplicit false
set_option maxRecDepth 100000
namespace Go.Proofs.YtncccgglillmoaaGreatDoor.ZQ
open Go Go.Ev Go.Proofs.YtncccgglillmoaaGreatDoor.Env
def s10 : AV := .str [116, 114, 121, 32, 49, 32, 119, 105, 116, 104, 32, 120, 32, 45, 62, 32, 116, 114, 117, 101]
def n10 : AV := AV.agg [AV.str [116, 114, 121], AV.str [120], AV.str [], AV.int IntKind.i64 (Int.ofNat 0), AV.int IntKind.i64 (Int.ofNat 0), AV.sl Own.no [AV.agg [AV.str [105, 110, 116], AV.str [], AV.str [], AV.int IntKind.i64 (Int.ofNat 1), AV.int IntKind.i64 (Int.ofNat 4), AV.sl Own.no []], AV.agg [AV.str [98, 111, 111, 108], AV.str [], AV.str [], AV.int IntKind.i64 (Int.ofNat 1), AV.int IntKind.i64 (Int.ofNat 16), AV.sl Own.no []]]]
def p10 : AV := AV.tup [n10, AV.int IntKind.i64 (Int.ofNat 20), AV.int IntKind.i64 (Int.ofNat 0)]
theorem hp10 : runIs envI 300 9 60 [s10] p10 = true := by kernel_rfl
def o10 : AV := AV.tup [AV.agg [AV.str [], AV.int IntKind.i64 (Int.ofNat 0), AV.sl Own.no []], AV.int IntKind.i64 (Int.ofNat 0), AV.int IntKind.i64 (Int.ofNat 5)]
theorem ho10 : runIs envI 300 12 60 [n10] o10 = true := by kernel_rfl
end Go.Proofs.YtncccgglillmoaaGreatDoor.ZQ
