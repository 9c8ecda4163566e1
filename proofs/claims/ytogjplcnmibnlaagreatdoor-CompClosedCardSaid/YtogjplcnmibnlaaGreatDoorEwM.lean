/- The machine's equations for simp, as one theorem. -/
import Derived.Test.YtogjplcnmibnlaaGreatDoorEwA
set_option autoImplicit false
set_option linter.unusedVariables false
namespace Go.Ev
variable [MT] [Inhabited KA0]
theorem EVT : (∀ (E : Env) (f n : Nat) (tm : Tm) (h : H), cdL E f n .skip tm h = some (.normal, tm, h)) ∧
  (∀ (E : Env) (f n : Nat) (tm : Tm) (h : H) (l : Nat), cdL E f n (.label l) tm h = some (.normal, tm, h)) ∧
  (∀ (E : Env) (f n : Nat) (tm : Tm) (h : H) (id : Nat), cdL E f n (.exit id) tm h = some (.exit id, tm, h)) ∧
  (∀ (E : Env) (f n : Nat) (tm : Tm) (h : H), cdL E f n .ret tm h = some (.ret, tm, h)) ∧
  (∀ (E : Env) (f n : Nat) (tm : Tm) (h : H) (id : Nat) (os : Array Oper), cdL E f n (.region id os false) tm h = match evSeq (evL E) E.ty n os os.toList tm h with | none => none | some (tm', h') => some (.normal, tm', h')) ∧
  (∀ (E : Env) (f n : Nat) (tm : Tm) (h : H) (id : Nat) (os : Array Oper), cdL E f n (.region id os true) tm h = match E.plan f id with | none => (match E.alt f id with | none => none | some al => match evAlt (evL E) E.ty n os al tm h with | none => none | some (tm', h') => some (.normal, tm', h')) | some pl => match evPlan (evL E) E.ty n os pl tm h with | none => none | some (tm', h') => some (.normal, tm', h')) ∧
  (∀ (E : Env) (f n : Nat) (tm : Tm) (h : H) (a b : Code), cdL E f n (.seq a b) tm h = match cdL E f n a tm h with | none => none | some (.normal, tm', h') => cdL E f n b tm' h' | some r => some r) ∧
  (∀ (E : Env) (f n : Nat) (tm : Tm) (h : H) (c : Operand) (a b : Code), cdL E f n (.cond c a b) tm h = match val tm c with | some (.bool t) => bif t then cdL E f n a tm h else cdL E f n b tm h | _ => none) ∧
  (∀ (E : Env) (f n : Nat) (tm : Tm) (h : H) (id : Nat) (b : Code), cdL E f n (.block id b) tm h = match cdL E f n b tm h with | none => none | some (.exit j, tm', h') => some (bif Nat.beq j id then .normal else .exit j, tm', h') | some r => some r) ∧
  (∀ (α : Type) (k : Nat), (T.e : T α).get k = none) ∧
  (∀ (α : Type) (t : T α) (k j : Nat) (v : α), (t.set k v).get j = if j = k then some v else t.get j) ∧
  (∀ a b : Nat, Nat.blt a b = decide (a < b)) ∧
  (∀ a b : Nat, Nat.ble a b = decide (a ≤ b)) ∧
  (∀ a b : Nat, Nat.beq a b = decide (a = b)) ∧
  (∀ x : AV, AV.beq x x = true) :=
  ⟨@cdL_skip _, @cdL_label _, @cdL_exit _, @cdL_ret _, @cdL_region _, @cdL_drawn _, @cdL_seq _, @cdL_cond _, @cdL_block _, fun _ => T.get_e, fun _ => T.get_set_ite, blt_dec, ble_dec, beq_dec, AV.beq_refl⟩
theorem EVT0 : (∀ (α : Type) (k : Nat), (T.e : T α).get k = none) ∧
  (∀ (α : Type) (t : T α) (k j : Nat) (v : α), (t.set k v).get j = if j = k then some v else t.get j) ∧
  (∀ a b : Nat, Nat.blt a b = decide (a < b)) ∧ (∀ a b : Nat, Nat.ble a b = decide (a ≤ b)) ∧ (∀ a b : Nat, Nat.beq a b = decide (a = b)) ∧ (∀ x : AV, AV.beq x x = true) :=
  ⟨fun _ => T.get_e, fun _ => T.get_set_ite, blt_dec, ble_dec, beq_dec, AV.beq_refl⟩
end Go.Ev
