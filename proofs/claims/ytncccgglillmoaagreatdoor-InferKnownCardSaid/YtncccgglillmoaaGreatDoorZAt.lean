/- errors.As at a target of type **infer.fault: of a fault, of a fault within others. After the kit's worked example of errors.As at a concrete target. -/
import Derived.Test.YtncccgglillmoaaGreatDoorProg
import Derived.WalkKit
import Derived.LaidEql
import Derived.Stop.Asserts
import Derived.RowKitTokens
set_option autoImplicit false
namespace Go.Proofs.YtncccgglillmoaaGreatDoor.As
open Go.RowKit Go.Extern.Stop Go.Stop Go.Extern

theorem valueOf94 (t : Addr) (w : World) : (ReflectliteValue.unpack (.iface 94 (.pointer (some t)))).run Tryz.prog w
    = .ok (.agg #[.pointer (some ⟨4, 94, none⟩), .pointer (some ⟨w.heap.size, 0, none⟩), .int .u64 150]) (w.alloc (.cells #[.pointer (some t)] 94)) := by kernel_rfl
theorem type94 (a : Addr) (w : World) : (ReflectliteValue.methodAny (ReflectliteValue.valueError "reflectlite.Value.Type" 0) (fun t _ _ _ => ReflectliteType.toType t) #[.agg #[.pointer (some ⟨4, 94, none⟩), .pointer (some a), .int .u64 150]]).run Tryz.prog w
    = .ok (.iface 197 (.agg #[.pointer (some ⟨4, 94, none⟩)])) w := by kernel_rfl
theorem methodKind (h : Value) (w : World) : (Go.method 417 197 (.agg #[h]) "Kind").run Tryz.prog w = .ok (224, h) w := by kernel_rfl
theorem kind94 (w : World) : ((ReflectliteType.abiMethod fun t => (fun a : Nat => Value.int IntKind.u8 (a : Int)) <$> Rtype.kind t) #[.pointer (some ⟨4, 94, none⟩)]).run Tryz.prog w = .ok (.int .u8 22) w := by kernel_rfl
theorem kind92 (w : World) : ((ReflectliteType.abiMethod fun t => (fun a : Nat => Value.int IntKind.u8 (a : Int)) <$> Rtype.kind t) #[.pointer (some ⟨4, 92, none⟩)]).run Tryz.prog w = .ok (.int .u8 22) w := by kernel_rfl
theorem rlm (z : Sem Value) (f : TypeId → Addr → Nat → Nat → Sem Value) (v : Value) :
    ReflectliteValue.method z f #[v] = (do match ← ReflectliteValue.parts v with | none => z | some (t, a, fl) => f t a fl (fl % 32)) := rfl
theorem parts94 (a : Addr) (w : World) : (ReflectliteValue.parts (.agg #[.pointer (some ⟨4, 94, none⟩), .pointer (some a), .int .u64 150])).run Tryz.prog w = .ok (some (94, a, 150)) w := by kernel_rfl
theorem isNil94 (a p : Addr) (W : World) (ha : W.cell? a = some (.pointer (some p))) :
    (ReflectliteValue.method (ReflectliteValue.valueError "reflectlite.Value.IsNil" 0) ReflectliteValue.isNil #[.agg #[.pointer (some ⟨4, 94, none⟩), .pointer (some a), .int .u64 150]]).run Tryz.prog W = .ok (.bool false) W := by
  rw [rlm]
  simp only [Sem.run_bind, parts94, Result.andThen]
  simp [ReflectliteValue.isNil, loadVar, isAgg, underlying, Tryz.underlying94, ha, Result.andThen]
theorem methodElem (h : Value) (w : World) : (Go.method 417 197 (.agg #[h]) "Elem").run Tryz.prog w = .ok (237, .agg #[h]) w := by kernel_rfl
theorem methodImplements (h : Value) (w : World) : (Go.method 417 197 (.agg #[h]) "Implements").run Tryz.prog w = .ok (238, .agg #[h]) w := by kernel_rfl
theorem methodAssignableTo (h : Value) (w : World) : (Go.method 417 197 (.agg #[h]) "AssignableTo").run Tryz.prog w = .ok (235, .agg #[h]) w := by kernel_rfl
theorem methodUnwrap (b : Value) (w : World) : (Go.method 417 187 b "Unwrap").run Tryz.prog w = .ok (233, b) w := by kernel_rfl
theorem elem94 (w : World) : (ReflectliteType.method ReflectliteType.elem #[.agg #[.pointer (some ⟨4, 94, none⟩)]]).run Tryz.prog w = .ok (.iface 197 (.agg #[.pointer (some ⟨4, 92, none⟩)])) w := by kernel_rfl
theorem implements92 (w : World) : (ReflectliteType.relation "Implements" ReflectliteType.implements_ #[.agg #[.pointer (some ⟨4, 92, none⟩)], .iface 197 (.agg #[.pointer (some ⟨4, 89, none⟩)])]).run Tryz.prog w = .ok (.bool true) w := by kernel_rfl
theorem typeOf92 (v : Value) (w : World) : (ReflectliteType.typeOf #[.iface 92 v]).run Tryz.prog w = .ok (.iface 197 (.agg #[.pointer (some ⟨4, 92, none⟩)])) w := by kernel_rfl
theorem typeOf187 (v : Value) (w : World) : (ReflectliteType.typeOf #[.iface 187 v]).run Tryz.prog w = .ok (.iface 197 (.agg #[.pointer (some ⟨4, 187, none⟩)])) w := by kernel_rfl
theorem assignable92 (w : World) : (ReflectliteType.relation "AssignableTo" ReflectliteType.assignableTo #[.agg #[.pointer (some ⟨4, 92, none⟩)], .iface 197 (.agg #[.pointer (some ⟨4, 92, none⟩)])]).run Tryz.prog w = .ok (.bool true) w := by kernel_rfl
theorem assignable187 (w : World) : (ReflectliteType.relation "AssignableTo" ReflectliteType.assignableTo #[.agg #[.pointer (some ⟨4, 187, none⟩)], .iface 197 (.agg #[.pointer (some ⟨4, 92, none⟩)])]).run Tryz.prog w = .ok (.bool false) w := by kernel_rfl
theorem valueOf92 (e : Addr) (w : World) : (ReflectliteValue.unpack (.iface 92 (.pointer (some e)))).run Tryz.prog w
    = .ok (.agg #[.pointer (some ⟨4, 92, none⟩), .pointer (some ⟨w.heap.size, 0, none⟩), .int .u64 150]) (w.alloc (.cells #[.pointer (some e)] 92)) := by kernel_rfl
theorem elemOf94 (w : World) : (Rtype.elem? 94).run Tryz.prog w = .ok (some 92) w := by kernel_rfl
theorem mk92 (p : Addr) (w : World) : (ReflectliteValue.mk 92 p ReflectliteValue.flagAddr).run Tryz.prog w = .ok (.agg #[.pointer (some ⟨4, 92, none⟩), .pointer (some p), .int .u64 406]) w := by kernel_rfl
theorem elemV94 (a p : Addr) (W : World) (ha : W.cell? a = some (.pointer (some p))) :
    (ReflectliteValue.method (ReflectliteValue.valueError "reflectlite.Value.Elem" 0) ReflectliteValue.elem #[.agg #[.pointer (some ⟨4, 94, none⟩), .pointer (some a), .int .u64 150]]).run Tryz.prog W
      = .ok (.agg #[.pointer (some ⟨4, 92, none⟩), .pointer (some p), .int .u64 406]) W := by
  rw [rlm]
  simp only [Sem.run_bind, parts94, Result.andThen]
  simp [ReflectliteValue.elem, loadVar, isAgg, underlying, Tryz.underlying94, ha, Result.andThen, elemOf94, mk92]
theorem rls (v x : Value) : ReflectliteValue.set #[v, x] = (do
    let (some (dst, a, fl), some (src, b, _)) := (← ReflectliteValue.parts v, ← ReflectliteValue.parts x)
      | unsupported (.noEntry "extern/(internal/reflectlite.Value).Set.zeroValue")
    if fl / ReflectliteValue.flagAddr % 2 == 0 then unsupported (.noEntry "extern/(internal/reflectlite.Value).Set.unaddressable")
    let val ← loadVar src b
    if ← Rtype.directlyAssignable dst src then storeVar dst a val
    else if ← Rtype.implements dst src then
      if (← Rtype.kind src) == 20 then
        match val with
        | .nilIface => unsupported (.noEntry "extern/reflectlite: a nil value of one interface type handed on as a value of another")
        | _ => storeVar dst a val
      else storeVar dst a (.iface src val)
    else panicString ("reflectlite.Set: value of type " ++ (← Rtype.spelt src) ++ " is not assignable to type " ++ (← Rtype.spelt dst))
    pure (.tuple #[])) := rfl
theorem parts92a (a : Addr) (w : World) : (ReflectliteValue.parts (.agg #[.pointer (some ⟨4, 92, none⟩), .pointer (some a), .int .u64 406])).run Tryz.prog w = .ok (some (92, a, 406)) w := by kernel_rfl
theorem parts92 (a : Addr) (w : World) : (ReflectliteValue.parts (.agg #[.pointer (some ⟨4, 92, none⟩), .pointer (some a), .int .u64 150])).run Tryz.prog w = .ok (some (92, a, 150)) w := by kernel_rfl
theorem direct92 (w : World) : (Rtype.directlyAssignable 92 92).run Tryz.prog w = .ok true w := by kernel_rfl
theorem set92 (ta b e : Addr) (old : Value) (W : World) (hb : W.cell? b = some (.pointer (some e))) (ht : W.cell? ta = some old) (hf : W.frozen? ta = false) :
    (ReflectliteValue.set #[.agg #[.pointer (some ⟨4, 92, none⟩), .pointer (some ta), .int .u64 406], .agg #[.pointer (some ⟨4, 92, none⟩), .pointer (some b), .int .u64 150]]).run Tryz.prog W
      = .ok (.tuple #[]) (W.setCell ta (.pointer (some e))) := by
  rw [rls]
  simp only [Sem.run_bind, parts92a, parts92, Result.andThen]
  simp [ReflectliteValue.flagAddr, loadVar, isAgg, underlying, Tryz.underlying92, hb, Result.andThen, direct92, storeVar, Value.cells, storeCells, Addr.add]
  rw [run_store Tryz.prog W ta _ _ (by rfl)]
  simp [ht, hf]
theorem noAs187 (v : Value) (xT : TypeId) (w : World) : (Instr.typeAssert (.iface 187 v) xT 202 true).run Tryz.prog w = .ok (.tuple #[.nilIface, .bool false]) w := run_typeAssert_lacksB Tryz.underlying202 (by kernel_rfl) (by kernel_rfl) v xT w
theorem hasUn187 (v : Value) (xT : TypeId) (w : World) : (Instr.typeAssert (.iface 187 v) xT 205 true).run Tryz.prog w = .ok (.tuple #[.iface 187 v, .bool true]) w := run_typeAssert_hasB Tryz.underlying205 (by kernel_rfl) v xT w
end Go.Proofs.YtncccgglillmoaaGreatDoor.As
/- errors.As walked: the walk down a chain of wrapped faults. -/
set_option autoImplicit false
namespace Go.Proofs.YtncccgglillmoaaGreatDoor.As
open Go.RowKit Go.Extern.Stop Go.Stop Go.Extern

/-- A fault within so many others, in memory. -/
inductive Chain (W : World) (e : Addr) : Value → Nat → Prop
  | hit : Chain W e (.iface 92 (.pointer (some e))) 0
  | step (b off : Nat) (v : Value) (d : Nat) (hc : W.cell? ⟨b, off + 1, none⟩ = some v) (h : Chain W e v d) : Chain W e (.iface 187 (.pointer (some ⟨b, off, none⟩))) (d + 1)
theorem Chain.uniq {W : World} {e : Addr} {v : Value} {d d' : Nat} (h : Chain W e v d) (h' : Chain W e v d') : d = d' := by
  induction h generalizing d' with
  | hit => cases h'; rfl
  | step b off v d hc h ih =>
    cases h' with
    | step _ _ v' d' hc' h' =>
      rw [hc] at hc'
      injection hc' with hc'
      subst hc'
      rw [ih h']
theorem Chain.iface {W : World} {e : Addr} {v : Value} {d : Nat} (h : Chain W e v d) : ∃ t x, v = .iface t x := by cases h <;> exact ⟨_, _, rfl⟩
noncomputable def depthOf (W : World) (e : Addr) (v : Value) : Nat := @dite _ (∃ d, Chain W e v d) (Classical.propDecidable _) (fun h => h.choose) (fun _ => 0)
theorem depthOf_eq {W : World} {e : Addr} {v : Value} {d : Nat} (h : Chain W e v d) : depthOf W e v = d := by
  have hx : ∃ d, Chain W e v d := ⟨d, h⟩
  unfold depthOf
  rw [dif_pos hx]
  exact hx.choose_spec.uniq h
theorem unwrap_run (b off : Nat) (v : Value) (W : World) (hc : W.cell? ⟨b, off + 1, none⟩ = some v) : Calls Tryz.prog 233 #[.pointer (some ⟨b, off, none⟩)] W fun e w' => e = .returned v ∧ w' = W := by
  go_enter Tryz.func233, Tryz.ntmps233
  go_wp2
  go_ret
  exact ⟨rfl, rfl⟩
set_option maxHeartbeats 4000000 in
theorem as73 (e t a : Addr) (old err : Value) (d : Nat) (w : World) (ha : w.cell? a = some (.pointer (some t))) (ht : w.cell? t = some old) (hf : w.frozen? t = false) (hch : Chain w e err d) :
    Calls Tryz.prog 73 #[err, .iface 94 (.pointer (some t)), .agg #[.pointer (some ⟨4, 94, none⟩), .pointer (some a), .int .u64 150], .iface 197 (.agg #[.pointer (some ⟨4, 92, none⟩)])] w fun ev w' => ev = .returned (.bool true) ∧
      w' = ((w.alloc (.cells #[.pointer (some ⟨4, 94, none⟩), .pointer (some a), .int .u64 150] 147)).alloc (.cells #[.pointer (some e)] 92)).setCell t (.pointer (some e)) := by
  have h70 := @run_callFunc_extern Tryz.prog 70 _ (fun args => ReflectliteValue.unpack (args.getD 0 (.tuple #[]))) Tryz.func70 (by kernel_rfl) (by kernel_rfl) (by kernel_rfl) (by kernel_rfl)
  have h106 := @run_callFunc_extern Tryz.prog 106 _ (ReflectliteType.typeOf) Tryz.func106 (by kernel_rfl) (by kernel_rfl) (by kernel_rfl) (by kernel_rfl)
  have h235 := @run_callFunc_extern Tryz.prog 235 _ (ReflectliteType.relation "AssignableTo" ReflectliteType.assignableTo) Tryz.func235 (by kernel_rfl) (by kernel_rfl) (by kernel_rfl) (by kernel_rfl)
  have h107 := @run_callFunc_extern Tryz.prog 107 _ (ReflectliteValue.method (ReflectliteValue.valueError "reflectlite.Value.Elem" 0) ReflectliteValue.elem) Tryz.func107 (by kernel_rfl) (by kernel_rfl) (by kernel_rfl) (by kernel_rfl)
  have h108 := @run_callFunc_extern Tryz.prog 108 _ ReflectliteValue.set Tryz.func108 (by kernel_rfl) (by kernel_rfl) (by kernel_rfl) (by kernel_rfl)
  have t92 := typeOf92
  have t187 := typeOf187
  have mA := methodAssignableTo
  have mU := methodUnwrap
  have a92 := assignable92
  have a187 := assignable187
  have v92 := valueOf92
  have na := noAs187
  have hu := hasUn187
  have htl : t.block < w.heap.size := World.block_lt_of_cell? w t ht
  have hal : a.block < w.heap.size := World.block_lt_of_cell? w a ha
  have el := elemV94 a t (w.alloc (.cells #[.pointer (some ⟨4, 94, none⟩), .pointer (some a), .int .u64 150] 147)) (by rw [World.cell?_alloc_lt _ _ a hal]; exact ha)
  have st := set92 t ⟨w.heap.size + 1, 0, none⟩ e old ((w.alloc (.cells #[.pointer (some ⟨4, 94, none⟩), .pointer (some a), .int .u64 150] 147)).alloc (.cells #[.pointer (some e)] 92))
    (by rw [World.cell?_alloc_at _ _ _ _ (by simp)]; rfl)
    (by rw [World.cell?_alloc_lt _ _ t (by simp; omega), World.cell?_alloc_lt _ _ t htl]; exact ht)
    (by rw [World.frozen?_alloc_old _ _ t (by simp; omega), World.frozen?_alloc_old _ _ t (Nat.ne_of_lt htl)]; exact hf)
  go_enter Tryz.func73, Tryz.ntmps73
  go_wp2
  go_loopw [0] (fun i wr => wr = w.alloc (.cells #[.pointer (some ⟨4, 94, none⟩), .pointer (some a), .int .u64 150] 147) ∧ ∃ k, Chain w e i k) (fun i _ => depthOf w e i)
  case atStart => exact ⟨rfl, d, hch⟩
  case round =>
    obtain ⟨rfl, k, hk⟩ := hrel
    cases hk with
    | hit =>
      go_wp2
      go_ret
      exact ⟨rfl, rfl⟩
    | step b off v k hc hk =>
      have hbl : b < w.heap.size := World.block_lt_of_cell? w ⟨b, off + 1, none⟩ hc
      have hc' : (w.alloc (.cells #[.pointer (some ⟨4, 94, none⟩), .pointer (some a), .int .u64 150] 147)).cell? ⟨b, off + 1, none⟩ = some v := by rw [World.cell?_alloc_lt _ _ ⟨b, off + 1, none⟩ hbl]; exact hc
      obtain ⟨tv, xv, rfl⟩ := hk.iface
      go_wp2_with (go_at_call 233; refine (unwrap_run b off _ _ hc').mono ?_; rintro e' w' ⟨rfl, rfl⟩)
      go_roundw
      case rel => exact ⟨trivial, k, hk⟩
      case measure => rw [depthOf_eq hk, depthOf_eq (Chain.step b off _ k hc hk)]; exact Nat.lt_succ_self k
theorem as_nil (t : Value) (w : World) : Calls Tryz.prog 27 #[.nilIface, t] w fun e w' => e = .returned (.bool false) ∧ w' = w := by
  go_enter Tryz.func27, Tryz.ntmps27
  go_wp2
  go_ret
  exact ⟨rfl, rfl⟩
/-- What a call of errors.As makes anew. -/
def asMade (w : World) (t : Addr) : World := (w.alloc (.cells #[.pointer (some t)] 94)).alloc (.cells #[.pointer (some ⟨4, 94, none⟩), .pointer (some ⟨w.heap.size, 0, none⟩), .int .u64 150] 147)
set_option maxHeartbeats 4000000 in
theorem as27 (e t : Addr) (old err : Value) (d : Nat) (w : World) (hg : w.cell? ⟨0, 0, none⟩ = some (.iface 197 (.agg #[.pointer (some ⟨4, 89, none⟩)]))) (ht : w.cell? t = some old) (hf : w.frozen? t = false) (hch : Chain w e err d) :
    Calls Tryz.prog 27 #[err, .iface 94 (.pointer (some t))] w fun ev w' => ev = .returned (.bool true) ∧
      w' = (((asMade w t).alloc (.cells #[.pointer (some ⟨4, 94, none⟩), .pointer (some ⟨w.heap.size, 0, none⟩), .int .u64 150] 147)).alloc (.cells #[.pointer (some e)] 92)).setCell t (.pointer (some e)) := by
  have h70 := @run_callFunc_extern Tryz.prog 70 _ (fun args => ReflectliteValue.unpack (args.getD 0 (.tuple #[]))) Tryz.func70 (by kernel_rfl) (by kernel_rfl) (by kernel_rfl) (by kernel_rfl)
  have h71 := @run_callFunc_extern Tryz.prog 71 _ (ReflectliteValue.methodAny (ReflectliteValue.valueError "reflectlite.Value.Type" 0) (fun t _ _ _ => ReflectliteType.toType t)) Tryz.func71 (by kernel_rfl) (by kernel_rfl) (by kernel_rfl) (by kernel_rfl)
  have h72 := @run_callFunc_extern Tryz.prog 72 _ (ReflectliteValue.method (ReflectliteValue.valueError "reflectlite.Value.IsNil" 0) ReflectliteValue.isNil) Tryz.func72 (by kernel_rfl) (by kernel_rfl) (by kernel_rfl) (by kernel_rfl)
  have h224 := @run_callFunc_extern Tryz.prog 224 _ (ReflectliteType.abiMethod fun t => do pure (.int .u8 (← Rtype.kind t))) Tryz.func224 (by kernel_rfl) (by kernel_rfl) (by kernel_rfl) (by kernel_rfl)
  have h237 := @run_callFunc_extern Tryz.prog 237 _ (ReflectliteType.method ReflectliteType.elem) Tryz.func237 (by kernel_rfl) (by kernel_rfl) (by kernel_rfl) (by kernel_rfl)
  have h238 := @run_callFunc_extern Tryz.prog 238 _ (ReflectliteType.relation "Implements" ReflectliteType.implements_) Tryz.func238 (by kernel_rfl) (by kernel_rfl) (by kernel_rfl) (by kernel_rfl)
  have f70 := valueOf94
  have f71 := type94
  have mK := methodKind
  have mE := methodElem
  have mI := methodImplements
  have k94 := kind94
  have k92 := kind92
  have e94 := elem94
  have i92 := implements92
  have n72 := isNil94 ⟨w.heap.size, 0, none⟩ t (asMade w t) (by unfold asMade; simp)
  have hlt : 0 < w.heap.size := World.block_lt_of_cell? w ⟨0, 0, none⟩ hg
  have hg2 : (asMade w t).cell? ⟨0, 0, none⟩ = some (.iface 197 (.agg #[.pointer (some ⟨4, 89, none⟩)])) := by
    unfold asMade
    rw [World.cell?_alloc_lt _ _ ⟨0, 0, none⟩ (by simp), World.cell?_alloc_lt _ _ ⟨0, 0, none⟩ hlt]; exact hg
  have htl : t.block < w.heap.size := World.block_lt_of_cell? w t ht
  have chM : ∀ {v : Value} {d : Nat}, Chain w e v d → Chain (asMade w t) e v d := by
    intro v d h
    induction h with
    | hit => exact .hit
    | step b off v d hc h ih =>
      have hbl : b < w.heap.size := World.block_lt_of_cell? w ⟨b, off + 1, none⟩ hc
      exact .step b off v d (by unfold asMade; rw [World.cell?_alloc_lt _ _ ⟨b, off + 1, none⟩ (by simp; omega), World.cell?_alloc_lt _ _ ⟨b, off + 1, none⟩ hbl]; exact hc) ih
  have a73 := as73 e t ⟨w.heap.size, 0, none⟩ old err d (asMade w t) (by unfold asMade; rw [World.cell?_alloc_lt _ _ _ (by simp)]; simp)
    (by unfold asMade; rw [World.cell?_alloc_lt _ _ t (by simp; omega), World.cell?_alloc_lt _ _ t htl]; exact ht)
    (by unfold asMade; rw [World.frozen?_alloc_old _ _ t (by simp; omega), World.frozen?_alloc_old _ _ t (Nat.ne_of_lt htl)]; exact hf) (chM hch)
  obtain ⟨tv, xv, rfl⟩ := hch.iface
  unfold asMade at n72 hg2 a73 ⊢
  go_enter Tryz.func27, Tryz.ntmps27
  go_wp2_with (go_at_call 73; refine a73.mono ?_; rintro e' w' ⟨rfl, rfl⟩)
  go_ret
  exact ⟨rfl, rfl⟩
end Go.Proofs.YtncccgglillmoaaGreatDoor.As
