/- Calls that are known: texts that are parsed, their types. -/
import Derived.Test.YtncccgglillmoaaGreatDoorZI
set_option autoImplicit false
set_option maxRecDepth 100000
namespace Go.Proofs.YtncccgglillmoaaGreatDoor.ZQ
open Go Go.Ev Go.Proofs.YtncccgglillmoaaGreatDoor.Env
def s0 : AV := .str [120]
def n0 : AV := AV.agg [AV.str [118, 97, 114], AV.str [120], AV.str [], AV.int IntKind.i64 (Int.ofNat 0), AV.int IntKind.i64 (Int.ofNat 0), AV.sl Own.no []]
def p0 : AV := AV.tup [n0, AV.int IntKind.i64 (Int.ofNat 1), AV.int IntKind.i64 (Int.ofNat 0)]
theorem hp0 : runIs envI 300 9 60 [s0] p0 = true := by kernel_rfl
def o0 : AV := AV.tup [AV.agg [AV.str [], AV.int IntKind.i64 (Int.ofNat 0), AV.sl Own.no []], AV.int IntKind.i64 (Int.ofNat 0), AV.int IntKind.i64 (Int.ofNat 4)]
theorem ho0 : runIs envI 300 12 60 [n0] o0 = true := by kernel_rfl
end Go.Proofs.YtncccgglillmoaaGreatDoor.ZQ
/- Calls that are known: texts that are parsed, their types. -/
set_option autoImplicit false
set_option maxRecDepth 100000
namespace Go.Proofs.YtncccgglillmoaaGreatDoor.ZQ
open Go Go.Ev Go.Proofs.YtncccgglillmoaaGreatDoor.Env
def s1 : AV := .str [49, 32, 43, 32, 116, 114, 117, 101]
def n1 : AV := AV.agg [AV.str [97, 100, 100], AV.str [], AV.str [], AV.int IntKind.i64 (Int.ofNat 0), AV.int IntKind.i64 (Int.ofNat 2), AV.sl Own.no [AV.agg [AV.str [105, 110, 116], AV.str [], AV.str [], AV.int IntKind.i64 (Int.ofNat 1), AV.int IntKind.i64 (Int.ofNat 0), AV.sl Own.no []], AV.agg [AV.str [98, 111, 111, 108], AV.str [], AV.str [], AV.int IntKind.i64 (Int.ofNat 1), AV.int IntKind.i64 (Int.ofNat 4), AV.sl Own.no []]]]
def p1 : AV := AV.tup [n1, AV.int IntKind.i64 (Int.ofNat 8), AV.int IntKind.i64 (Int.ofNat 0)]
theorem hp1 : runIs envI 300 9 60 [s1] p1 = true := by kernel_rfl
def o1 : AV := AV.tup [AV.agg [AV.str [], AV.int IntKind.i64 (Int.ofNat 0), AV.sl Own.no []], AV.int IntKind.i64 (Int.ofNat 2), AV.int IntKind.i64 (Int.ofNat 5)]
theorem ho1 : runIs envI 300 12 60 [n1] o1 = true := by kernel_rfl
end Go.Proofs.YtncccgglillmoaaGreatDoor.ZQ
/- Calls that are known: texts that are parsed, their types. -/
set_option autoImplicit false
set_option maxRecDepth 100000
namespace Go.Proofs.YtncccgglillmoaaGreatDoor.ZQ
open Go Go.Ev Go.Proofs.YtncccgglillmoaaGreatDoor.Env
def s2 : AV := .str [108, 101, 116, 32, 105, 100, 32, 61, 32, 114, 101, 102, 32, 40, 102, 117, 110, 32, 120, 32, 45, 62, 32, 120, 41, 32, 105, 110, 32, 40, 33, 105, 100, 32, 49, 44, 32, 33, 105, 100, 32, 116, 114, 117, 101, 41]
def n2 : AV := AV.agg [AV.str [108, 101, 116], AV.str [105, 100], AV.str [], AV.int IntKind.i64 (Int.ofNat 0), AV.int IntKind.i64 (Int.ofNat 0), AV.sl Own.no [AV.agg [AV.str [114, 101, 102], AV.str [], AV.str [], AV.int IntKind.i64 (Int.ofNat 0), AV.int IntKind.i64 (Int.ofNat 9), AV.sl Own.no [AV.agg [AV.str [102, 117, 110], AV.str [120], AV.str [], AV.int IntKind.i64 (Int.ofNat 0), AV.int IntKind.i64 (Int.ofNat 14), AV.sl Own.no [AV.agg [AV.str [118, 97, 114], AV.str [120], AV.str [], AV.int IntKind.i64 (Int.ofNat 0), AV.int IntKind.i64 (Int.ofNat 23), AV.sl Own.no []]]]]], AV.agg [AV.str [112, 97, 105, 114], AV.str [], AV.str [], AV.int IntKind.i64 (Int.ofNat 0), AV.int IntKind.i64 (Int.ofNat 29), AV.sl Own.no [AV.agg [AV.str [97, 112, 112], AV.str [], AV.str [], AV.int IntKind.i64 (Int.ofNat 0), AV.int IntKind.i64 (Int.ofNat 34), AV.sl Own.no [AV.agg [AV.str [103, 101, 116], AV.str [], AV.str [], AV.int IntKind.i64 (Int.ofNat 0), AV.int IntKind.i64 (Int.ofNat 30), AV.sl Own.no [AV.agg [AV.str [118, 97, 114], AV.str [105, 100], AV.str [], AV.int IntKind.i64 (Int.ofNat 0), AV.int IntKind.i64 (Int.ofNat 31), AV.sl Own.no []]]], AV.agg [AV.str [105, 110, 116], AV.str [], AV.str [], AV.int IntKind.i64 (Int.ofNat 1), AV.int IntKind.i64 (Int.ofNat 34), AV.sl Own.no []]]], AV.agg [AV.str [97, 112, 112], AV.str [], AV.str [], AV.int IntKind.i64 (Int.ofNat 0), AV.int IntKind.i64 (Int.ofNat 41), AV.sl Own.no [AV.agg [AV.str [103, 101, 116], AV.str [], AV.str [], AV.int IntKind.i64 (Int.ofNat 0), AV.int IntKind.i64 (Int.ofNat 37), AV.sl Own.no [AV.agg [AV.str [118, 97, 114], AV.str [105, 100], AV.str [], AV.int IntKind.i64 (Int.ofNat 0), AV.int IntKind.i64 (Int.ofNat 38), AV.sl Own.no []]]], AV.agg [AV.str [98, 111, 111, 108], AV.str [], AV.str [], AV.int IntKind.i64 (Int.ofNat 1), AV.int IntKind.i64 (Int.ofNat 41), AV.sl Own.no []]]]]]]]
def p2 : AV := AV.tup [n2, AV.int IntKind.i64 (Int.ofNat 46), AV.int IntKind.i64 (Int.ofNat 0)]
theorem hp2 : runIs envI 300 9 60 [s2] p2 = true := by kernel_rfl
def o2 : AV := AV.tup [AV.agg [AV.str [], AV.int IntKind.i64 (Int.ofNat 0), AV.sl Own.no []], AV.int IntKind.i64 (Int.ofNat 41), AV.int IntKind.i64 (Int.ofNat 5)]
theorem ho2 : runIs envI 300 12 60 [n2] o2 = true := by kernel_rfl
end Go.Proofs.YtncccgglillmoaaGreatDoor.ZQ
/- Calls that are known: texts that are parsed, their types. -/
set_option autoImplicit false
set_option maxRecDepth 100000
namespace Go.Proofs.YtncccgglillmoaaGreatDoor.ZQ
open Go Go.Ev Go.Proofs.YtncccgglillmoaaGreatDoor.Env
def s3 : AV := .str [102, 117, 110, 32, 102, 32, 45, 62, 32, 40, 102, 32, 49, 44, 32, 102, 32, 116, 114, 117, 101, 41]
def n3 : AV := AV.agg [AV.str [102, 117, 110], AV.str [102], AV.str [], AV.int IntKind.i64 (Int.ofNat 0), AV.int IntKind.i64 (Int.ofNat 0), AV.sl Own.no [AV.agg [AV.str [112, 97, 105, 114], AV.str [], AV.str [], AV.int IntKind.i64 (Int.ofNat 0), AV.int IntKind.i64 (Int.ofNat 9), AV.sl Own.no [AV.agg [AV.str [97, 112, 112], AV.str [], AV.str [], AV.int IntKind.i64 (Int.ofNat 0), AV.int IntKind.i64 (Int.ofNat 12), AV.sl Own.no [AV.agg [AV.str [118, 97, 114], AV.str [102], AV.str [], AV.int IntKind.i64 (Int.ofNat 0), AV.int IntKind.i64 (Int.ofNat 10), AV.sl Own.no []], AV.agg [AV.str [105, 110, 116], AV.str [], AV.str [], AV.int IntKind.i64 (Int.ofNat 1), AV.int IntKind.i64 (Int.ofNat 12), AV.sl Own.no []]]], AV.agg [AV.str [97, 112, 112], AV.str [], AV.str [], AV.int IntKind.i64 (Int.ofNat 0), AV.int IntKind.i64 (Int.ofNat 17), AV.sl Own.no [AV.agg [AV.str [118, 97, 114], AV.str [102], AV.str [], AV.int IntKind.i64 (Int.ofNat 0), AV.int IntKind.i64 (Int.ofNat 15), AV.sl Own.no []], AV.agg [AV.str [98, 111, 111, 108], AV.str [], AV.str [], AV.int IntKind.i64 (Int.ofNat 1), AV.int IntKind.i64 (Int.ofNat 17), AV.sl Own.no []]]]]]]]
def p3 : AV := AV.tup [n3, AV.int IntKind.i64 (Int.ofNat 22), AV.int IntKind.i64 (Int.ofNat 0)]
theorem hp3 : runIs envI 300 9 60 [s3] p3 = true := by kernel_rfl
def o3 : AV := AV.tup [AV.agg [AV.str [], AV.int IntKind.i64 (Int.ofNat 0), AV.sl Own.no []], AV.int IntKind.i64 (Int.ofNat 17), AV.int IntKind.i64 (Int.ofNat 5)]
theorem ho3 : runIs envI 300 12 60 [n3] o3 = true := by kernel_rfl
end Go.Proofs.YtncccgglillmoaaGreatDoor.ZQ
