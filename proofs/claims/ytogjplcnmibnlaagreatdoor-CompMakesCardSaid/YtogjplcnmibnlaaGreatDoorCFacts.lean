/- The machine's equations for simp, as one theorem. -/
import Derived.Test.YtogjplcnmibnlaaGreatDoorEwA
import Derived.Test.YtogjplcnmibnlaaGreatDoorCEnv
set_option autoImplicit false
set_option maxRecDepth 100000
set_option linter.unusedSimpArgs false
set_option linter.unusedVariables false
set_option linter.unusedSectionVars false
namespace Go.Ev
variable [MT] [Inhabited KA0]
theorem EVT : (∀ (E : Env) (f n : Nat) (tm : Tm) (h : H), cdL E f n .skip tm h = some (.normal, tm, h)) ∧
  (∀ (E : Env) (f n : Nat) (tm : Tm) (h : H) (l : Nat), cdL E f n (.label l) tm h = some (.normal, tm, h)) ∧
  (∀ (E : Env) (f n : Nat) (tm : Tm) (h : H) (id : Nat), cdL E f n (.exit id) tm h = some (.exit id, tm, h)) ∧
  (∀ (E : Env) (f n : Nat) (tm : Tm) (h : H), cdL E f n .ret tm h = some (.ret, tm, h)) ∧
  (∀ (E : Env) (f n : Nat) (tm : Tm) (h : H) (id : Nat) (os : Array Oper), cdL E f n (.region id os false) tm h = match evSeq (evL E) E.ty n os os.toList tm h with | none => none | some (tm', h') => some (.normal, tm', h')) ∧
  (∀ (E : Env) (f n : Nat) (tm : Tm) (h : H) (id : Nat) (os : Array Oper), cdL E f n (.region id os true) tm h = match E.plan f id with | none => (match E.alt f id with | none => none | some al => match evAlt (evL E) E.ty n os al tm h with | none => none | some (tm', h') => some (.normal, tm', h')) | some pl => match evPlan (evL E) E.ty n os pl tm h with | none => none | some (tm', h') => some (.normal, tm', h')) ∧
  (∀ (E : Env) (f n : Nat) (tm : Tm) (h : H) (a b : Code), cdL E f n (.seq a b) tm h = match cdL E f n a tm h with | none => none | some (.normal, tm', h') => cdL E f n b tm' h' | some r => some r) ∧
  (∀ (E : Env) (f n : Nat) (tm : Tm) (h : H) (c : Operand) (a b : Code), cdL E f n (.cond c a b) tm h = match val tm c with | some (.bool t) => bif t then cdL E f n a tm h else cdL E f n b tm h | _ => none) ∧
  (∀ (E : Env) (f n : Nat) (tm : Tm) (h : H) (id : Nat) (b : Code), cdL E f n (.block id b) tm h = match cdL E f n b tm h with | none => none | some (.exit j, tm', h') => some (bif Nat.beq j id then .normal else .exit j, tm', h') | some r => some r) ∧
  (∀ (α : Type) (k : Nat), (T.e : T α).get k = none) ∧
  (∀ (α : Type) (t : T α) (k j : Nat) (v : α), (t.set k v).get j = if j = k then some v else t.get j) ∧
  (∀ a b : Nat, Nat.blt a b = decide (a < b)) ∧
  (∀ a b : Nat, Nat.ble a b = decide (a ≤ b)) ∧
  (∀ a b : Nat, Nat.beq a b = decide (a = b)) ∧
  (∀ x : AV, AV.beq x x = true) :=
  ⟨@cdL_skip _, @cdL_label _, @cdL_exit _, @cdL_ret _, @cdL_region _, @cdL_drawn _, @cdL_seq _, @cdL_cond _, @cdL_block _, fun _ => T.get_e, fun _ => T.get_set_ite, blt_dec, ble_dec, beq_dec, AV.beq_refl⟩
theorem EVT0 : (∀ (α : Type) (k : Nat), (T.e : T α).get k = none) ∧
  (∀ (α : Type) (t : T α) (k j : Nat) (v : α), (t.set k v).get j = if j = k then some v else t.get j) ∧
  (∀ a b : Nat, Nat.blt a b = decide (a < b)) ∧ (∀ a b : Nat, Nat.ble a b = decide (a ≤ b)) ∧ (∀ a b : Nat, Nat.beq a b = decide (a = b)) ∧ (∀ x : AV, AV.beq x x = true) :=
  ⟨fun _ => T.get_e, fun _ => T.get_set_ite, blt_dec, ble_dec, beq_dec, AV.beq_refl⟩
end Go.Ev
/- Lookups in the tables of the program, as equations: written by a program. -/
namespace Go.Proofs.YtogjplcnmibnlaaGreatDoor.Env
open Go.Ev
theorem TYC : ((((((((env.ty 0 = some ⟨TK.tup, 1, 0, some (AV.tup []), false, none⟩) ∧
((env.ty 1 = some ⟨TK.fn, 1, 8, some AV.nilFn, false, none⟩) ∧
(env.ty 2 = some ⟨TK.int IntKind.i64, 1, 8, some (AV.int IntKind.i64 0), false, none⟩))) ∧
((env.ty 3 = some ⟨TK.int IntKind.i64, 1, 8, some (AV.int IntKind.i64 0), false, none⟩) ∧
((env.ty 4 = some ⟨TK.bool, 1, 1, some (AV.bool false), false, none⟩) ∧
(env.ty 5 = some ⟨TK.int IntKind.u8, 1, 1, some (AV.int IntKind.u8 0), false, none⟩)))) ∧
(((env.ty 6 = some ⟨TK.int IntKind.u8, 1, 1, some (AV.int IntKind.u8 0), false, none⟩) ∧
((env.ty 7 = some ⟨TK.st [(0, 1, false), (1, 1, false), (2, 1, false), (3, 1, false)], 4, 24, some (AV.agg [AV.int IntKind.i64 0, AV.int IntKind.i64 0, AV.bool false, AV.int IntKind.u8 0]), true, some [(0, 0), (1, 0), (2, 2), (3, 0)]⟩) ∧
(env.ty 8 = some ⟨TK.st [(0, 1, false), (1, 1, false), (2, 1, false), (3, 1, false)], 4, 24, some (AV.agg [AV.int IntKind.i64 0, AV.int IntKind.i64 0, AV.bool false, AV.int IntKind.u8 0]), true, some [(0, 0), (1, 0), (2, 2), (3, 0)]⟩))) ∧
(((env.ty 9 = some ⟨TK.str, 1, 16, some (AV.str []), false, none⟩) ∧
(env.ty 10 = some ⟨TK.str, 1, 16, some (AV.str []), false, none⟩)) ∧
((env.ty 11 = some ⟨TK.str, 1, 16, some (AV.str []), false, none⟩) ∧
(env.ty 12 = some ⟨TK.int IntKind.u64, 1, 8, some (AV.int IntKind.u64 0), false, none⟩))))) ∧
((((env.ty 13 = some ⟨TK.st [(0, 1, false), (1, 1, false)], 2, 24, some (AV.agg [AV.str [], AV.int IntKind.u64 0]), true, none⟩) ∧
((env.ty 14 = some ⟨TK.st [(0, 1, false), (1, 1, false)], 2, 24, some (AV.agg [AV.str [], AV.int IntKind.u64 0]), true, none⟩) ∧
(env.ty 15 = some ⟨TK.ptr 186, 1, 8, some (AV.ptr none), false, none⟩))) ∧
(((env.ty 16 = some ⟨TK.ptr 189, 1, 8, some (AV.ptr none), false, none⟩) ∧
(env.ty 17 = some ⟨TK.ptr 198, 1, 8, some (AV.ptr none), false, none⟩)) ∧
((env.ty 18 = some ⟨TK.st [(0, 1, false)], 1, 8, some (AV.agg [AV.ptr none]), true, none⟩) ∧
(env.ty 19 = some ⟨TK.st [(0, 1, false)], 1, 8, some (AV.agg [AV.ptr none]), true, none⟩)))) ∧
(((env.ty 20 = some ⟨TK.iface, 1, 16, some AV.nilIface, false, none⟩) ∧
((env.ty 21 = some ⟨TK.int IntKind.i32, 1, 4, some (AV.int IntKind.i32 0), false, none⟩) ∧
(env.ty 22 = some ⟨TK.sl 24, 1, 24, some (AV.sl Own.full []), false, none⟩))) ∧
(((env.ty 23 = some ⟨TK.st [(0, 1, false), (1, 1, false), (2, 1, false), (3, 1, false), (4, 1, false), (5, 1, false)], 6, 88, some (AV.agg [AV.str [], AV.str [], AV.str [], AV.int IntKind.i64 0, AV.int IntKind.i64 0, AV.sl Own.full []]), true, none⟩) ∧
(env.ty 24 = some ⟨TK.st [(0, 1, false), (1, 1, false), (2, 1, false), (3, 1, false), (4, 1, false), (5, 1, false)], 6, 88, some (AV.agg [AV.str [], AV.str [], AV.str [], AV.int IntKind.i64 0, AV.int IntKind.i64 0, AV.sl Own.full []]), true, none⟩)) ∧
((env.ty 25 = some ⟨TK.sl 9, 1, 24, some (AV.sl Own.full []), false, none⟩) ∧
(env.ty 26 = some ⟨TK.fn, 1, 8, some AV.nilFn, false, none⟩)))))) ∧
(((((env.ty 27 = some ⟨TK.sl 54, 1, 24, some (AV.sl Own.full []), false, none⟩) ∧
((env.ty 28 = some ⟨TK.st [(0, 1, false), (1, 1, false), (2, 1, false)], 3, 56, some (AV.agg [AV.int IntKind.i64 0, AV.sl Own.full [], AV.sl Own.full []]), true, none⟩) ∧
(env.ty 29 = some ⟨TK.st [(0, 1, false), (1, 1, false), (2, 1, false)], 3, 56, some (AV.agg [AV.int IntKind.i64 0, AV.sl Own.full [], AV.sl Own.full []]), true, none⟩))) ∧
(((env.ty 30 = some ⟨TK.int IntKind.i64, 1, 8, some (AV.int IntKind.i64 0), false, none⟩) ∧
(env.ty 31 = some ⟨TK.tup, 1, 0, none, false, none⟩)) ∧
((env.ty 32 = some ⟨TK.fn, 1, 8, some AV.nilFn, false, none⟩) ∧
(env.ty 33 = some ⟨TK.tup, 1, 0, none, false, none⟩)))) ∧
(((env.ty 34 = some ⟨TK.fn, 1, 8, some AV.nilFn, false, none⟩) ∧
((env.ty 35 = some ⟨TK.fn, 1, 8, some AV.nilFn, false, none⟩) ∧
(env.ty 36 = some ⟨TK.fn, 1, 8, some AV.nilFn, false, none⟩))) ∧
(((env.ty 37 = some ⟨TK.fn, 1, 8, some AV.nilFn, false, none⟩) ∧
(env.ty 38 = some ⟨TK.tup, 1, 0, none, false, none⟩)) ∧
((env.ty 39 = some ⟨TK.fn, 1, 8, some AV.nilFn, false, none⟩) ∧
(env.ty 40 = some ⟨TK.fn, 1, 8, some AV.nilFn, false, none⟩))))) ∧
((((env.ty 41 = some ⟨TK.fn, 1, 8, some AV.nilFn, false, none⟩) ∧
((env.ty 42 = some ⟨TK.fn, 1, 8, some AV.nilFn, false, none⟩) ∧
(env.ty 43 = some ⟨TK.fn, 1, 8, some AV.nilFn, false, none⟩))) ∧
(((env.ty 44 = some ⟨TK.fn, 1, 8, some AV.nilFn, false, none⟩) ∧
(env.ty 45 = some ⟨TK.sl 25, 1, 24, some (AV.sl Own.full []), false, none⟩)) ∧
((env.ty 46 = some ⟨TK.fn, 1, 8, some AV.nilFn, false, none⟩) ∧
(env.ty 47 = some ⟨TK.fn, 1, 8, some AV.nilFn, false, none⟩)))) ∧
(((env.ty 48 = some ⟨TK.fn, 1, 8, some AV.nilFn, false, none⟩) ∧
((env.ty 49 = some ⟨TK.fn, 1, 8, some AV.nilFn, false, none⟩) ∧
(env.ty 50 = some ⟨TK.ptr 52, 1, 8, some (AV.ptr none), false, none⟩))) ∧
(((env.ty 51 = some ⟨TK.st [(0, 3, true)], 3, 56, some (AV.agg [AV.int IntKind.i64 0, AV.sl Own.full [], AV.sl Own.full []]), true, none⟩) ∧
(env.ty 52 = some ⟨TK.st [(0, 3, true)], 3, 56, some (AV.agg [AV.int IntKind.i64 0, AV.sl Own.full [], AV.sl Own.full []]), true, none⟩)) ∧
((env.ty 53 = some ⟨TK.fn, 1, 8, some AV.nilFn, false, none⟩) ∧
(env.ty 54 = some ⟨TK.sl 62, 1, 24, some (AV.sl Own.full []), false, none⟩))))))) ∧
((((((env.ty 55 = some ⟨TK.fn, 1, 8, some AV.nilFn, false, none⟩) ∧
((env.ty 56 = some ⟨TK.fn, 1, 8, some AV.nilFn, false, none⟩) ∧
(env.ty 57 = some ⟨TK.ptr 59, 1, 8, some (AV.ptr none), false, none⟩))) ∧
(((env.ty 58 = some ⟨TK.st [(0, 1, false), (1, 1, false)], 2, 48, some (AV.agg [AV.sl Own.full [], AV.sl Own.full []]), true, none⟩) ∧
(env.ty 59 = some ⟨TK.st [(0, 1, false), (1, 1, false)], 2, 48, some (AV.agg [AV.sl Own.full [], AV.sl Own.full []]), true, none⟩)) ∧
((env.ty 60 = some ⟨TK.fn, 1, 8, some AV.nilFn, false, none⟩) ∧
(env.ty 61 = some ⟨TK.st [(0, 1, false), (1, 1, false)], 2, 16, some (AV.agg [AV.int IntKind.i64 0, AV.int IntKind.i64 0]), true, some [(0, 0), (1, 0)]⟩)))) ∧
(((env.ty 62 = some ⟨TK.st [(0, 1, false), (1, 1, false)], 2, 16, some (AV.agg [AV.int IntKind.i64 0, AV.int IntKind.i64 0]), true, some [(0, 0), (1, 0)]⟩) ∧
((env.ty 63 = some ⟨TK.sl 71, 1, 24, some (AV.sl Own.full []), false, none⟩) ∧
(env.ty 64 = some ⟨TK.tup, 1, 0, some (AV.tup [AV.sl Own.full [], AV.int IntKind.i64 0, AV.int IntKind.i64 0]), false, none⟩))) ∧
(((env.ty 65 = some ⟨TK.fn, 1, 8, some AV.nilFn, false, none⟩) ∧
(env.ty 66 = some ⟨TK.ptr 68, 1, 8, some (AV.ptr none), false, none⟩)) ∧
((env.ty 67 = some ⟨TK.st [(0, 1, false), (1, 1, false), (2, 1, false), (3, 1, false)], 4, 48, some (AV.agg [AV.sl Own.full [], AV.int IntKind.i64 0, AV.int IntKind.i64 0, AV.int IntKind.i64 0]), true, none⟩) ∧
(env.ty 68 = some ⟨TK.st [(0, 1, false), (1, 1, false), (2, 1, false), (3, 1, false)], 4, 48, some (AV.agg [AV.sl Own.full [], AV.int IntKind.i64 0, AV.int IntKind.i64 0, AV.int IntKind.i64 0]), true, none⟩))))) ∧
((((env.ty 69 = some ⟨TK.fn, 1, 8, some AV.nilFn, false, none⟩) ∧
((env.ty 70 = some ⟨TK.st [(0, 1, false), (1, 1, false), (2, 1, false), (3, 1, false)], 4, 40, some (AV.agg [AV.int IntKind.i64 0, AV.str [], AV.int IntKind.i64 0, AV.int IntKind.i64 0]), true, some [(0, 0), (1, 1), (2, 0), (3, 0)]⟩) ∧
(env.ty 71 = some ⟨TK.st [(0, 1, false), (1, 1, false), (2, 1, false), (3, 1, false)], 4, 40, some (AV.agg [AV.int IntKind.i64 0, AV.str [], AV.int IntKind.i64 0, AV.int IntKind.i64 0]), true, some [(0, 0), (1, 1), (2, 0), (3, 0)]⟩))) ∧
(((env.ty 72 = some ⟨TK.fn, 1, 8, some AV.nilFn, false, none⟩) ∧
(env.ty 73 = some ⟨TK.fn, 1, 8, some AV.nilFn, false, none⟩)) ∧
((env.ty 74 = some ⟨TK.sl 103, 1, 24, some (AV.sl Own.full []), false, none⟩) ∧
(env.ty 75 = some ⟨TK.sl 3, 1, 24, some (AV.sl Own.full []), false, none⟩)))) ∧
(((env.ty 76 = some ⟨TK.st [(0, 3, true), (3, 1, false), (4, 1, false), (5, 1, false), (6, 1, false), (7, 1, false), (8, 1, false)], 9, 168, some (AV.agg [AV.int IntKind.i64 0, AV.sl Own.full [], AV.sl Own.full [], AV.sl Own.full [], AV.sl Own.full [], AV.bool false, AV.sl Own.full [], AV.sl Own.full [], AV.int IntKind.i64 0]), true, none⟩) ∧
((env.ty 77 = some ⟨TK.st [(0, 3, true), (3, 1, false), (4, 1, false), (5, 1, false), (6, 1, false), (7, 1, false), (8, 1, false)], 9, 168, some (AV.agg [AV.int IntKind.i64 0, AV.sl Own.full [], AV.sl Own.full [], AV.sl Own.full [], AV.sl Own.full [], AV.bool false, AV.sl Own.full [], AV.sl Own.full [], AV.int IntKind.i64 0]), true, none⟩) ∧
(env.ty 78 = some ⟨TK.ptr 77, 1, 8, some (AV.ptr none), false, none⟩))) ∧
(((env.ty 79 = some ⟨TK.fn, 1, 8, some AV.nilFn, false, none⟩) ∧
(env.ty 80 = some ⟨TK.fn, 1, 8, some AV.nilFn, false, none⟩)) ∧
((env.ty 81 = some ⟨TK.fn, 1, 8, some AV.nilFn, false, none⟩) ∧
(env.ty 82 = some ⟨TK.fn, 1, 8, some AV.nilFn, false, none⟩)))))) ∧
(((((env.ty 83 = some ⟨TK.mp 9 110, 1, 8, some (AV.map none), false, none⟩) ∧
((env.ty 84 = some ⟨TK.fn, 1, 8, some AV.nilFn, false, none⟩) ∧
(env.ty 85 = some ⟨TK.fn, 1, 8, some AV.nilFn, false, none⟩))) ∧
(((env.ty 86 = some ⟨TK.fn, 1, 8, some AV.nilFn, false, none⟩) ∧
(env.ty 87 = some ⟨TK.fn, 1, 8, some AV.nilFn, false, none⟩)) ∧
((env.ty 88 = some ⟨TK.fn, 1, 8, some AV.nilFn, false, none⟩) ∧
(env.ty 89 = some ⟨TK.ptr 91, 1, 8, some (AV.ptr none), false, none⟩)))) ∧
(((env.ty 90 = some ⟨TK.st [(0, 1, false), (1, 1, false)], 2, 32, some (AV.agg [AV.ptr none, AV.sl Own.full []]), true, none⟩) ∧
((env.ty 91 = some ⟨TK.st [(0, 1, false), (1, 1, false)], 2, 32, some (AV.agg [AV.ptr none, AV.sl Own.full []]), true, none⟩) ∧
(env.ty 92 = some ⟨TK.fn, 1, 8, some AV.nilFn, false, none⟩))) ∧
(((env.ty 93 = some ⟨TK.fn, 1, 8, some AV.nilFn, false, none⟩) ∧
(env.ty 94 = some ⟨TK.fn, 1, 8, some AV.nilFn, false, none⟩)) ∧
((env.ty 95 = some ⟨TK.fn, 1, 8, some AV.nilFn, false, none⟩) ∧
(env.ty 96 = some ⟨TK.fn, 1, 8, some AV.nilFn, false, none⟩))))) ∧
((((env.ty 97 = some ⟨TK.tup, 1, 0, none, false, none⟩) ∧
((env.ty 98 = some ⟨TK.fn, 1, 8, some AV.nilFn, false, none⟩) ∧
(env.ty 99 = some ⟨TK.fn, 1, 8, some AV.nilFn, false, none⟩))) ∧
(((env.ty 100 = some ⟨TK.fn, 1, 8, some AV.nilFn, false, none⟩) ∧
(env.ty 101 = some ⟨TK.fn, 1, 8, some AV.nilFn, false, none⟩)) ∧
((env.ty 102 = some ⟨TK.fn, 1, 8, some AV.nilFn, false, none⟩) ∧
(env.ty 103 = some ⟨TK.sl 107, 1, 24, some (AV.sl Own.full []), false, none⟩)))) ∧
(((env.ty 104 = some ⟨TK.fn, 1, 8, some AV.nilFn, false, none⟩) ∧
((env.ty 105 = some ⟨TK.fn, 1, 8, some AV.nilFn, false, none⟩) ∧
(env.ty 106 = some ⟨TK.st [(0, 1, false), (1, 1, false), (2, 1, false), (3, 1, false)], 4, 48, some (AV.agg [AV.bool false, AV.int IntKind.i64 0, AV.int IntKind.i64 0, AV.sl Own.full []]), true, none⟩))) ∧
(((env.ty 107 = some ⟨TK.st [(0, 1, false), (1, 1, false), (2, 1, false), (3, 1, false)], 4, 48, some (AV.agg [AV.bool false, AV.int IntKind.i64 0, AV.int IntKind.i64 0, AV.sl Own.full []]), true, none⟩) ∧
(env.ty 108 = some ⟨TK.fn, 1, 8, some AV.nilFn, false, none⟩)) ∧
((env.ty 109 = some ⟨TK.st [(0, 1, false), (1, 1, false), (2, 1, false), (3, 1, false)], 4, 24, some (AV.agg [AV.bool false, AV.bool false, AV.int IntKind.i64 0, AV.int IntKind.i64 0]), true, some [(0, 2), (1, 2), (2, 0), (3, 0)]⟩) ∧
(env.ty 110 = some ⟨TK.st [(0, 1, false), (1, 1, false), (2, 1, false), (3, 1, false)], 4, 24, some (AV.agg [AV.bool false, AV.bool false, AV.int IntKind.i64 0, AV.int IntKind.i64 0]), true, some [(0, 2), (1, 2), (2, 0), (3, 0)]⟩)))))))) ∧
(((((((env.ty 111 = some ⟨TK.tup, 1, 0, none, false, none⟩) ∧
((env.ty 112 = some ⟨TK.fn, 1, 8, some AV.nilFn, false, none⟩) ∧
(env.ty 113 = some ⟨TK.fn, 1, 8, some AV.nilFn, false, none⟩))) ∧
(((env.ty 114 = some ⟨TK.fn, 1, 8, some AV.nilFn, false, none⟩) ∧
(env.ty 115 = some ⟨TK.fn, 1, 8, some AV.nilFn, false, none⟩)) ∧
((env.ty 116 = some ⟨TK.int IntKind.u64, 1, 8, some (AV.int IntKind.u64 0), false, none⟩) ∧
(env.ty 117 = some ⟨TK.fn, 1, 8, some AV.nilFn, false, none⟩)))) ∧
(((env.ty 118 = some ⟨TK.fn, 1, 8, some AV.nilFn, false, none⟩) ∧
((env.ty 119 = some ⟨TK.fn, 1, 8, some AV.nilFn, false, none⟩) ∧
(env.ty 120 = some ⟨TK.mp 9 3, 1, 8, some (AV.map none), false, none⟩))) ∧
(((env.ty 121 = some ⟨TK.fn, 1, 8, some AV.nilFn, false, none⟩) ∧
(env.ty 122 = some ⟨TK.fn, 1, 8, some AV.nilFn, false, none⟩)) ∧
((env.ty 123 = some ⟨TK.fn, 1, 8, some AV.nilFn, false, none⟩) ∧
(env.ty 124 = some ⟨TK.fn, 1, 8, some AV.nilFn, false, none⟩))))) ∧
((((env.ty 125 = some ⟨TK.fn, 1, 8, some AV.nilFn, false, none⟩) ∧
((env.ty 126 = some ⟨TK.tup, 1, 0, some (AV.tup [AV.int IntKind.i64 0, AV.int IntKind.i64 0]), false, none⟩) ∧
(env.ty 127 = some ⟨TK.fn, 1, 8, some AV.nilFn, false, none⟩))) ∧
(((env.ty 128 = some ⟨TK.fn, 1, 8, some AV.nilFn, false, none⟩) ∧
(env.ty 129 = some ⟨TK.fn, 1, 8, some AV.nilFn, false, none⟩)) ∧
((env.ty 130 = some ⟨TK.fn, 1, 8, some AV.nilFn, false, none⟩) ∧
(env.ty 131 = some ⟨TK.fn, 1, 8, some AV.nilFn, false, none⟩)))) ∧
(((env.ty 132 = some ⟨TK.int IntKind.i64, 1, 8, some (AV.int IntKind.i64 0), false, none⟩) ∧
((env.ty 133 = some ⟨TK.tup, 1, 0, some (AV.tup [AV.int IntKind.i64 0, AV.int IntKind.i64 0]), false, none⟩) ∧
(env.ty 134 = some ⟨TK.fn, 1, 8, some AV.nilFn, false, none⟩))) ∧
(((env.ty 135 = some ⟨TK.fn, 1, 8, some AV.nilFn, false, none⟩) ∧
(env.ty 136 = some ⟨TK.fn, 1, 8, some AV.nilFn, false, none⟩)) ∧
((env.ty 137 = some ⟨TK.fn, 1, 8, some AV.nilFn, false, none⟩) ∧
(env.ty 138 = some ⟨TK.tup, 1, 0, some (AV.tup [AV.int IntKind.i64 0, AV.bool false]), false, none⟩)))))) ∧
(((((env.ty 139 = some ⟨TK.fn, 1, 8, some AV.nilFn, false, none⟩) ∧
((env.ty 140 = some ⟨TK.fn, 1, 8, some AV.nilFn, false, none⟩) ∧
(env.ty 141 = some ⟨TK.int IntKind.u32, 1, 4, some (AV.int IntKind.u32 0), false, none⟩))) ∧
(((env.ty 142 = some ⟨TK.fn, 1, 8, some AV.nilFn, false, none⟩) ∧
(env.ty 143 = some ⟨TK.int IntKind.u64, 1, 8, some (AV.int IntKind.u64 0), false, none⟩)) ∧
((env.ty 144 = some ⟨TK.fn, 1, 8, some AV.nilFn, false, none⟩) ∧
(env.ty 145 = some ⟨TK.fn, 1, 8, some AV.nilFn, false, none⟩)))) ∧
(((env.ty 146 = some ⟨TK.fn, 1, 8, some AV.nilFn, false, none⟩) ∧
((env.ty 147 = some ⟨TK.tup, 1, 0, some (AV.tup [AV.sl Own.full [], AV.int IntKind.i64 0, AV.int IntKind.i64 0]), false, none⟩) ∧
(env.ty 148 = some ⟨TK.fn, 1, 8, some AV.nilFn, false, none⟩))) ∧
(((env.ty 149 = some ⟨TK.int IntKind.u64, 1, 8, some (AV.int IntKind.u64 0), false, none⟩) ∧
(env.ty 150 = some ⟨TK.fn, 1, 8, some AV.nilFn, false, none⟩)) ∧
((env.ty 151 = some ⟨TK.fn, 1, 8, some AV.nilFn, false, none⟩) ∧
(env.ty 152 = some ⟨TK.fn, 1, 8, some AV.nilFn, false, none⟩))))) ∧
((((env.ty 153 = some ⟨TK.ptr 3, 1, 8, some (AV.ptr none), false, none⟩) ∧
((env.ty 155 = some ⟨TK.fn, 1, 8, some AV.nilFn, false, none⟩) ∧
(env.ty 157 = some ⟨TK.tup, 1, 0, none, false, none⟩))) ∧
(((env.ty 162 = some ⟨TK.sl 5, 1, 24, some (AV.sl Own.full []), false, none⟩) ∧
(env.ty 181 = some ⟨TK.st [(0, 1, false), (1, 1, false), (2, 1, false)], 3, 12, some (AV.agg [AV.int IntKind.u32 0, AV.int IntKind.u32 0, AV.int IntKind.u32 0]), true, some [(0, 0), (1, 0), (2, 0)]⟩)) ∧
((env.ty 184 = some ⟨TK.ptr 181, 1, 8, some (AV.ptr none), false, none⟩) ∧
(env.ty 186 = some ⟨TK.st [(0, 1, false), (1, 1, false), (2, 1, false), (3, 1, false)], 4, 40, some (AV.agg [AV.ptr none, AV.ptr none, AV.ptr none, AV.str []]), true, none⟩)))) ∧
(((env.ty 189 = some ⟨TK.st [(0, 0, true)], 0, 0, some (AV.agg []), true, none⟩) ∧
((env.ty 198 = some ⟨TK.st [(0, 1, false), (1, 1, false), (2, 1, false), (3, 1, false), (4, 1, false), (5, 1, false), (6, 1, false), (7, 1, false), (8, 1, false), (9, 1, false), (10, 1, false)], 11, 48, some (AV.agg [AV.int IntKind.u64 0, AV.int IntKind.u64 0, AV.int IntKind.u32 0, AV.int IntKind.u8 0, AV.int IntKind.u8 0, AV.int IntKind.u8 0, AV.int IntKind.u8 0, AV.nilFn, AV.ptr none, AV.int IntKind.i32 0, AV.int IntKind.i32 0]), true, none⟩) ∧
(env.plan 9 18 = some [qO 0, qO 1, qO 2, qO 3, qO 4, qO 5, qO 6, qO 7, qO 8, qO 9, qO 10, qI 11 [], qO 12]))) ∧
(((env.plan 10 6 = some [qO 0, qO 1, qO 2, qO 3, qO 4, qO 5, qO 6, qO 7, qO 8, qO 9, qO 10]) ∧
(env.plan 10 11 = some [qO 0, qO 1, qO 2, qO 3, qO 4, qO 5, qO 6, qO 7, qO 8, qO 9, qO 10, qO 11, qO 12])) ∧
((env.plan 10 16 = some [qO 0, qO 1, qO 2, qO 3, qO 4, qO 5, qO 6, qO 7, qO 8, qO 9, qO 10, qO 11, qO 12, qO 13, qO 14, qO 15, qO 16]) ∧
(env.plan 19 1 = some [qO 0, qI 1 [], qO 2, qO 3, qO 4, qI 5 [4], qI 6 [], qO 7, qO 8]))))))) ∧
((((((env.plan 22 6 = some [qO 0, qO 1, qO 2, qO 3, qO 4, qO 5, qO 6, qO 7, qO 8, qO 9, qO 10, qI 11 []]) ∧
((env.plan 32 1 = some [qO 0, qO 1, qO 3, qO 4, qO 5, qI 2 [4, 5], qO 6, qO 7, qO 8, qI 9 [], qO 10, qO 11]) ∧
(env.plan 33 3 = some [qO 0, qO 1, qO 2, qO 3, qO 4, qO 5, qO 6, qO 7, qO 8, qO 9, qO 10, qO 11, qO 12]))) ∧
(((env.plan 33 5 = some [qO 0, qO 1, qO 2, qO 3, qO 5, qO 6, qO 7, qO 9, qO 10, qO 11, qI 4 [6], qI 8 [], qI 12 [], qI 13 []]) ∧
(env.plan 33 9 = some [qO 0, qO 1, qO 2, qO 3, qO 4, qO 5, qO 6, qO 8, qO 9, qO 12, qI 7 [1, 4, 8], qI 10 [1, 4], qI 11 [1, 4], qI 13 [], qI 14 []])) ∧
((env.plan 42 8 = some [qO 0, qO 2, qO 3, qI 1 [0, 3], qO 4, qI 5 []]) ∧
(env.plan 42 10 = some [qO 0, qO 1, qO 2, qO 3, qO 4, qO 5, qO 6, qO 7, qO 8, qO 9, qO 10, qO 11, qO 12, qI 13 [0, 1, 4, 6, 8], qI 14 [0], qI 15 []])))) ∧
(((env.plan 42 12 = some [qO 0, qO 1, qO 2, qO 3, qO 4, qO 5, qI 6 []]) ∧
((env.plan 42 13 = some [qO 0, qO 1, qO 2, qO 3, qO 4, qO 5, qO 6, qO 7, qI 8 []]) ∧
(env.plan 42 15 = some [qO 0, qO 1, qO 2, qO 3, qO 4, qO 5, qO 6, qO 7, qO 8, qO 9, qO 10, qO 11, qO 12, qO 13, qO 14, qI 15 [0, 1, 4, 6, 8], qI 16 [0], qI 17 []]))) ∧
(((env.plan 42 16 = some [qO 0, qO 1, qO 2, qO 3, qO 4, qO 5, qO 6, qO 7, qI 8 []]) ∧
(env.plan 42 18 = some [qO 0, qO 1, qO 2, qO 3, qO 4, qO 5, qI 6 []])) ∧
((env.plan 42 19 = some [qO 0, qO 1, qO 3, qO 4, qI 2 [0], qI 5 []]) ∧
(env.plan 42 21 = some [qO 0, qO 1, qO 2, qO 3, qO 4, qO 5, qI 6 []]))))) ∧
((((env.plan 42 22 = some [qO 0, qO 1, qO 3, qO 4, qI 2 [0], qI 5 []]) ∧
((env.plan 42 24 = some [qO 0, qO 1, qO 3, qO 4, qI 2 [0], qI 5 []]) ∧
(env.plan 42 26 = some [qO 0, qO 1, qO 2, qO 3, qO 4, qO 5, qI 6 []]))) ∧
(((env.plan 42 28 = some [qO 0, qO 1, qO 2, qO 3, qO 4, qO 5, qI 6 []]) ∧
(env.plan 45 14 = some [qO 0, qO 1, qO 2, qO 3, qO 4, qO 5, qO 6, qO 7, qO 8, qI 9 [2, 4], qI 10 [], qO 11])) ∧
((env.plan 45 18 = some [qO 0, qO 1, qO 2, qO 3, qO 4, qO 5, qO 6, qO 7, qO 8, qI 9 []]) ∧
(env.plan 45 20 = some [qO 0, qO 1, qO 2, qO 3, qO 4, qO 5, qO 6, qO 7, qO 8, qO 9, qO 10, qI 11 [2, 4], qI 12 [], qO 13])))) ∧
(((env.plan 45 22 = some [qO 0, qO 1, qO 2, qO 3, qO 4, qO 5, qO 6, qO 7, qO 8, qI 9 []]) ∧
((env.plan 46 1 = some [qO 0, qO 1, qO 2, qO 3, qO 4, qO 5, qO 6, qO 7, qO 8, qO 9, qO 10, qO 11, qO 12, qO 13, qO 14, qO 15, qI 16 [3], qO 17, qI 18 []]) ∧
(env.plan 61 1 = some [qO 0, qO 1, qO 2, qO 3, qO 4, qO 5, qO 6, qO 7]))) ∧
(((env.plan 61 10 = some [qO 0, qO 1, qO 3, qO 4, qI 2 [4], qI 5 [], qO 6, qO 7]) ∧
(env.plan 69 10 = some [qO 0, qO 1, qO 2, qO 3, qO 4, qO 5, qO 6, qI 7 [], qI 8 []])) ∧
((env.plan 71 2 = some [qO 0, qO 1, qO 2, qO 3, qO 4, qI 5 [1], qI 6 []]) ∧
(env.plan 73 0 = some [qO 0, qO 1, qO 2, qO 3, qO 4, qO 5, qI 6 []])))))) ∧
(((((env.plan 74 0 = some [qO 0, qO 1, qO 2, qO 3, qO 4, qO 5, qI 6 []]) ∧
((env.plan 75 0 = some [qO 0, qO 1, qO 2, qO 3, qO 4, qO 5, qO 6, qO 7, qO 8, qO 9, qO 10, qI 11 [0, 2, 4], qI 12 []]) ∧
(env.plan 76 0 = some [qO 0, qO 1, qO 2, qO 3, qO 4, qO 5, qI 6 []]))) ∧
(((env.plan 77 0 = some [qO 0, qO 1, qO 2, qO 3, qO 4, qO 5, qI 6 []]) ∧
(env.plan 78 0 = some [qO 0, qO 1, qO 2, qO 3, qO 4, qO 5, qO 6, qO 7, qI 8 []])) ∧
((env.plan 80 2 = some [qO 0, qO 1, qO 2, qO 3, qO 4, qO 5, qO 6, qO 7, qO 8, qO 9, qO 10, qO 11, qO 12, qO 13, qO 14, qO 15, qI 16 [3], qO 17, qI 18 []]) ∧
(env.plan 80 7 = some [qO 0, qO 1, qO 2, qO 3, qO 4, qO 5, qO 6, qO 7, qO 8, qO 9, qO 10, qO 11, qO 12])))) ∧
(((env.plan 81 12 = some [qO 0, qO 1, qO 2, qO 3, qO 4, qO 5, qO 6, qO 7, qO 8, qO 9, qO 10, qO 11, qI 12 [3, 5], qI 13 []]) ∧
((env.plan 81 24 = some [qO 0, qO 1, qO 2, qO 3, qO 4, qO 5, qO 6, qO 7, qO 8, qI 9 []]) ∧
(env.plan 83 2 = some [qO 0, qO 1, qO 2, qO 3, qO 4, qO 5, qI 6 [2], qI 7 []]))) ∧
(((env.plan 115 0 = some [qO 0, qO 1, qO 2, qO 3, qO 4, qO 5, qO 6, qO 7, qO 8, qO 9, qO 10, qO 11, qI 12 []]) ∧
(env.plan 117 0 = some [qO 0, qO 1, qO 2, qO 3, qO 4, qO 5, qO 6, qO 7, qO 8, qO 9, qO 10, qO 11, qO 12, qO 13, qO 14, qO 15, qO 16, qO 17, qI 18 []])) ∧
((env.plan 134 3 = some [qO 1, qO 2, qI 0 [2], qI 3 []]) ∧
(MT.mt 22 = false))))) ∧
((((MT.mt 25 = false) ∧
((MT.mt 27 = true) ∧
(MT.mt 45 = false))) ∧
(((MT.mt 54 = true) ∧
(MT.mt 63 = false)) ∧
((MT.mt 74 = false) ∧
(MT.mt 75 = false)))) ∧
(((MT.mt 103 = false) ∧
((MT.mt 162 = false) ∧
(MT.mt 167 = false))) ∧
(((MT.mt 172 = false) ∧
(MT.mt 173 = false)) ∧
((∀ k, qO k = ⟨k, false, []⟩) ∧
(∀ k l, qI k l = ⟨k, true, l⟩))))))))) := ⟨⟨⟨⟨⟨⟨⟨by kernel_rfl, ⟨by kernel_rfl, by kernel_rfl⟩⟩, ⟨by kernel_rfl, ⟨by kernel_rfl, by kernel_rfl⟩⟩⟩, ⟨⟨by kernel_rfl, ⟨by kernel_rfl, by kernel_rfl⟩⟩, ⟨⟨by kernel_rfl, by kernel_rfl⟩, ⟨by kernel_rfl, by kernel_rfl⟩⟩⟩⟩, ⟨⟨⟨by kernel_rfl, ⟨by kernel_rfl, by kernel_rfl⟩⟩, ⟨⟨by kernel_rfl, by kernel_rfl⟩, ⟨by kernel_rfl, by kernel_rfl⟩⟩⟩, ⟨⟨by kernel_rfl, ⟨by kernel_rfl, by kernel_rfl⟩⟩, ⟨⟨by kernel_rfl, by kernel_rfl⟩, ⟨by kernel_rfl, by kernel_rfl⟩⟩⟩⟩⟩, ⟨⟨⟨⟨by kernel_rfl, ⟨by kernel_rfl, by kernel_rfl⟩⟩, ⟨⟨by kernel_rfl, by kernel_rfl⟩, ⟨by kernel_rfl, by kernel_rfl⟩⟩⟩, ⟨⟨by kernel_rfl, ⟨by kernel_rfl, by kernel_rfl⟩⟩, ⟨⟨by kernel_rfl, by kernel_rfl⟩, ⟨by kernel_rfl, by kernel_rfl⟩⟩⟩⟩, ⟨⟨⟨by kernel_rfl, ⟨by kernel_rfl, by kernel_rfl⟩⟩, ⟨⟨by kernel_rfl, by kernel_rfl⟩, ⟨by kernel_rfl, by kernel_rfl⟩⟩⟩, ⟨⟨by kernel_rfl, ⟨by kernel_rfl, by kernel_rfl⟩⟩, ⟨⟨by kernel_rfl, by kernel_rfl⟩, ⟨by kernel_rfl, by kernel_rfl⟩⟩⟩⟩⟩⟩, ⟨⟨⟨⟨⟨by kernel_rfl, ⟨by kernel_rfl, by kernel_rfl⟩⟩, ⟨⟨by kernel_rfl, by kernel_rfl⟩, ⟨by kernel_rfl, by kernel_rfl⟩⟩⟩, ⟨⟨by kernel_rfl, ⟨by kernel_rfl, by kernel_rfl⟩⟩, ⟨⟨by kernel_rfl, by kernel_rfl⟩, ⟨by kernel_rfl, by kernel_rfl⟩⟩⟩⟩, ⟨⟨⟨by kernel_rfl, ⟨by kernel_rfl, by kernel_rfl⟩⟩, ⟨⟨by kernel_rfl, by kernel_rfl⟩, ⟨by kernel_rfl, by kernel_rfl⟩⟩⟩, ⟨⟨by kernel_rfl, ⟨by kernel_rfl, by kernel_rfl⟩⟩, ⟨⟨by kernel_rfl, by kernel_rfl⟩, ⟨by kernel_rfl, by kernel_rfl⟩⟩⟩⟩⟩, ⟨⟨⟨⟨by kernel_rfl, ⟨by kernel_rfl, by kernel_rfl⟩⟩, ⟨⟨by kernel_rfl, by kernel_rfl⟩, ⟨by kernel_rfl, by kernel_rfl⟩⟩⟩, ⟨⟨by kernel_rfl, ⟨by kernel_rfl, by kernel_rfl⟩⟩, ⟨⟨by kernel_rfl, by kernel_rfl⟩, ⟨by kernel_rfl, by kernel_rfl⟩⟩⟩⟩, ⟨⟨⟨by kernel_rfl, ⟨by kernel_rfl, by kernel_rfl⟩⟩, ⟨⟨by kernel_rfl, by kernel_rfl⟩, ⟨by kernel_rfl, by kernel_rfl⟩⟩⟩, ⟨⟨by kernel_rfl, ⟨by kernel_rfl, by kernel_rfl⟩⟩, ⟨⟨by kernel_rfl, by kernel_rfl⟩, ⟨by kernel_rfl, by kernel_rfl⟩⟩⟩⟩⟩⟩⟩, ⟨⟨⟨⟨⟨⟨by kernel_rfl, ⟨by kernel_rfl, by kernel_rfl⟩⟩, ⟨⟨by kernel_rfl, by kernel_rfl⟩, ⟨by kernel_rfl, by kernel_rfl⟩⟩⟩, ⟨⟨by kernel_rfl, ⟨by kernel_rfl, by kernel_rfl⟩⟩, ⟨⟨by kernel_rfl, by kernel_rfl⟩, ⟨by kernel_rfl, by kernel_rfl⟩⟩⟩⟩, ⟨⟨⟨by kernel_rfl, ⟨by kernel_rfl, by kernel_rfl⟩⟩, ⟨⟨by kernel_rfl, by kernel_rfl⟩, ⟨by kernel_rfl, by kernel_rfl⟩⟩⟩, ⟨⟨by kernel_rfl, ⟨by kernel_rfl, by kernel_rfl⟩⟩, ⟨⟨by kernel_rfl, by kernel_rfl⟩, ⟨by kernel_rfl, by kernel_rfl⟩⟩⟩⟩⟩, ⟨⟨⟨⟨by kernel_rfl, ⟨by kernel_rfl, by kernel_rfl⟩⟩, ⟨⟨by kernel_rfl, by kernel_rfl⟩, ⟨by kernel_rfl, by kernel_rfl⟩⟩⟩, ⟨⟨by kernel_rfl, ⟨by kernel_rfl, by kernel_rfl⟩⟩, ⟨⟨by kernel_rfl, by kernel_rfl⟩, ⟨by kernel_rfl, by kernel_rfl⟩⟩⟩⟩, ⟨⟨⟨by kernel_rfl, ⟨by kernel_rfl, by kernel_rfl⟩⟩, ⟨⟨by kernel_rfl, by kernel_rfl⟩, ⟨by kernel_rfl, by kernel_rfl⟩⟩⟩, ⟨⟨by kernel_rfl, ⟨by kernel_rfl, by kernel_rfl⟩⟩, ⟨⟨by kernel_rfl, by kernel_rfl⟩, ⟨by kernel_rfl, by kernel_rfl⟩⟩⟩⟩⟩⟩, ⟨⟨⟨⟨⟨by kernel_rfl, ⟨by kernel_rfl, by kernel_rfl⟩⟩, ⟨⟨by kernel_rfl, by kernel_rfl⟩, ⟨by kernel_rfl, by kernel_rfl⟩⟩⟩, ⟨⟨by kernel_rfl, ⟨by kernel_rfl, by kernel_rfl⟩⟩, ⟨⟨by kernel_rfl, by kernel_rfl⟩, ⟨by kernel_rfl, by kernel_rfl⟩⟩⟩⟩, ⟨⟨⟨by kernel_rfl, ⟨by kernel_rfl, by kernel_rfl⟩⟩, ⟨⟨by kernel_rfl, by kernel_rfl⟩, ⟨by kernel_rfl, by kernel_rfl⟩⟩⟩, ⟨⟨by kernel_rfl, ⟨by kernel_rfl, by kernel_rfl⟩⟩, ⟨⟨by kernel_rfl, by kernel_rfl⟩, ⟨by kernel_rfl, by kernel_rfl⟩⟩⟩⟩⟩, ⟨⟨⟨⟨by kernel_rfl, ⟨by kernel_rfl, by kernel_rfl⟩⟩, ⟨⟨by kernel_rfl, by kernel_rfl⟩, ⟨by kernel_rfl, by kernel_rfl⟩⟩⟩, ⟨⟨by kernel_rfl, ⟨by kernel_rfl, by kernel_rfl⟩⟩, ⟨⟨by kernel_rfl, by kernel_rfl⟩, ⟨by kernel_rfl, by kernel_rfl⟩⟩⟩⟩, ⟨⟨⟨by kernel_rfl, ⟨by kernel_rfl, by kernel_rfl⟩⟩, ⟨⟨by kernel_rfl, by kernel_rfl⟩, ⟨by kernel_rfl, by kernel_rfl⟩⟩⟩, ⟨⟨by kernel_rfl, ⟨by kernel_rfl, by kernel_rfl⟩⟩, ⟨⟨by kernel_rfl, by kernel_rfl⟩, ⟨fun _ => rfl, fun _ _ => rfl⟩⟩⟩⟩⟩⟩⟩⟩
theorem MTC : MT.mt 22 = false ∧ MT.mt 25 = false ∧ MT.mt 27 = true ∧ MT.mt 45 = false ∧ MT.mt 54 = true ∧ MT.mt 63 = false ∧ MT.mt 74 = false ∧ MT.mt 75 = false ∧ MT.mt 103 = false ∧ MT.mt 162 = false ∧ MT.mt 167 = false ∧ MT.mt 172 = false ∧ MT.mt 173 = false := ⟨rfl, rfl, rfl, rfl, rfl, rfl, rfl, rfl, rfl, rfl, rfl, rfl, rfl⟩
end Go.Proofs.YtogjplcnmibnlaaGreatDoor.Env
