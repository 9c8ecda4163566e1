/- Each operation of the abstract machine is the model's: numbers, strings, parts, rows. -/
import Derived.Test.YtiifjjcoepgobaaEvE
import Derived.Laws.Strings
import Derived.Laws.Small
set_option autoImplicit false
set_option linter.unusedVariables false
set_option linter.unusedSimpArgs false
namespace Go.Ev

/-! ### Numbers and strings -/
theorem i64lo_spec {n : Int} (h : i64lo n = true) : -9223372036854775808 ≤ n ∧ n < 9223372036854775808 := by
  cases n with
  | ofNat m => simp only [i64lo, blt_nat] at h; simp only [Int.ofNat_eq_natCast]; constructor <;> omega
  | negSucc m => simp only [i64lo, blt_nat] at h; constructor <;> omega
theorem wrap_i64_in {n : Int} (h1 : -9223372036854775808 ≤ n) (h2 : n < 9223372036854775808) : IntKind.wrap .i64 n = n := by
  unfold IntKind.wrap
  have e : (2 ^ IntKind.bits .i64 : Int) = 18446744073709551616 := by decide
  have e2 : (2 ^ (IntKind.bits .i64 - 1) : Int) = 9223372036854775808 := by decide
  have e3 : IntKind.signed .i64 = true := rfl
  simp only [e, e2, e3, Bool.true_and, ge_iff_le, decide_eq_true_eq]
  split <;> omega
theorem wr_eq (k : IntKind) (n : Int) : wr k n = k.wrap n := by
  unfold wr
  split
  · cases h : i64lo n with
    | true => rw [cond_true]; obtain ⟨a, b⟩ := i64lo_spec h; exact (wrap_i64_in a b).symm
    | false => rfl
  · rfl
theorem ltI_eq (a b : Int) : ltI a b = decide (a < b) := by
  cases a <;> cases b <;> simp only [ltI]
  · rename_i m n
    by_cases h : m < n
    · rw [blt_nat.2 h]; symm; simp; omega
    · rw [blt_no h]; symm; simp; omega
  · symm; simp; omega
  · symm; simp; omega
  · rename_i m n
    by_cases h : n < m
    · rw [blt_nat.2 h]; symm; simp; omega
    · rw [blt_no h]; symm; simp; omega

theorem bytesOf_eq (a b : ByteArray) : (bytesOf a == bytesOf b) = (a.toList == b.toList) := by
  rw [ByteArray.toList_eq, ByteArray.toList_eq]
  unfold bytesOf
  by_cases h : a.data.toList = b.data.toList
  · rw [h]; simp
  · have : ¬ a.data.toList.map (·.toNat) = b.data.toList.map (·.toNat) := fun e => h ((List.map_inj_right (fun x y hxy => UInt8.toNat_inj.1 hxy)).1 e)
    rw [beq_eq_false_iff_ne.2 h, beq_eq_false_iff_ne.2 this]
theorem nLess_eq : ∀ (a b : List UInt8), nLess (a.map (·.toNat)) (b.map (·.toNat)) = Op.bytesLess a b
  | a, [] => by cases a <;> rfl
  | [], _ :: _ => rfl
  | x :: a, y :: b => by
    simp only [List.map_cons, nLess, Op.bytesLess, nLess_eq a b]
    congr 1
    · by_cases h : x < y
      · rw [blt_nat.2 (UInt8.lt_iff_toNat_lt.1 h)]; simp [h]
      · rw [blt_no (fun e => h (UInt8.lt_iff_toNat_lt.2 e))]; simp [h]
    · congr 1
      by_cases h : x = y
      · subst h; simp
      · rw [beq_no (fun e => h (UInt8.toNat_inj.1 e))]; simp [h]
theorem bytesOf_append (a b : ByteArray) : bytesOf (a ++ b) = bytesOf a ++ bytesOf b := by
  unfold bytesOf
  simp
theorem bytesOf_length (a : ByteArray) : (bytesOf a).length = a.size := by
  unfold bytesOf
  simp

section
variable {P : Program} {G : Gh} {w : World} {h : H}

theorem evInt_sim {op : BinOp} {k : IntKind} {a b : Int} {v : AV} (hv : evInt op k a b = some v) (t : Nat) :
    ∃ V, (binOp op t (.int k a) (.int k b)).run P w = .ok V w ∧ VR G w V v := by
  unfold evInt at hv
  cases op <;> simp only [Option.some.injEq, reduceCtorEq] at hv <;> subst hv
  case add => exact ⟨.int k (k.wrap (a + b)), by simp [binOp, Op.intArith], by rw [wr_eq]; exact .int _ _⟩
  case sub => exact ⟨.int k (k.wrap (a - b)), by simp [binOp, Op.intArith], by rw [wr_eq]; exact .int _ _⟩
  case mul => exact ⟨.int k (k.wrap (a * b)), by simp [binOp, Op.intArith], by rw [wr_eq]; exact .int _ _⟩
  case eql => exact ⟨.bool (a == b), by simp [binOp, Op.intCmp], by rw [intBeq_eq]; exact .bool _⟩
  case neq => exact ⟨.bool (a != b), by simp [binOp, Op.intCmp], by rw [intBeq_eq]; exact .bool _⟩
  case lss => exact ⟨.bool (decide (a < b)), by simp [binOp, Op.intCmp], by rw [ltI_eq]; exact .bool _⟩
  case leq => exact ⟨.bool (decide (a ≤ b)), by simp [binOp, Op.intCmp], by
    have : (!ltI b a) = decide (a ≤ b) := by rw [ltI_eq]; by_cases h : b < a <;> simp [h] <;> omega
    rw [this]; exact .bool _⟩
  case gtr => exact ⟨.bool (decide (a > b)), by simp [binOp, Op.intCmp], by rw [ltI_eq]; exact .bool _⟩
  case geq => exact ⟨.bool (decide (a ≥ b)), by simp [binOp, Op.intCmp], by
    have : (!ltI a b) = decide (a ≥ b) := by rw [ltI_eq]; by_cases h : a < b <;> simp [h] <;> omega
    rw [this]; exact .bool _⟩

theorem evStr_sim {op : BinOp} {a b : ByteArray} {v : AV} (hv : evStr op (bytesOf a) (bytesOf b) = some v) (t : Nat) :
    ∃ V, (binOp op t (.string a) (.string b)).run P w = .ok V w ∧ VR G w V v := by
  have hlt : nLess (bytesOf a) (bytesOf b) = Op.bytesLess a.toList b.toList := by rw [ByteArray.toList_eq, ByteArray.toList_eq]; exact nLess_eq _ _
  have heq : natsBeq (bytesOf a) (bytesOf b) = (a.toList == b.toList) := by rw [natsBeq_eq, bytesOf_eq]
  unfold evStr at hv
  cases op <;> simp only [Option.some.injEq, reduceCtorEq] at hv
  case add =>
    cases hc : Nat.ble ((bytesOf a).length + (bytesOf b).length) 140737488355328 with
    | false => rw [hc] at hv; simp at hv
    | true =>
      rw [hc] at hv
      simp only [cond_true, Option.some.injEq] at hv
      subst hv
      have hle : (bytesOf a).length + (bytesOf b).length ≤ 140737488355328 := Nat.le_of_ble_eq_true hc
      rw [bytesOf_length, bytesOf_length] at hle
      refine ⟨.string (a ++ b), ?_, by rw [← bytesOf_append]; exact .str _⟩
      have hmax : ¬ (((a.size + b.size : Nat) : Int) > IntKind.i64.max) := by
        have : IntKind.i64.max = 9223372036854775807 := by decide
        rw [this]; omega
      simp only [binOp, Op.stringOp, hmax, if_false, Sem.run_pure]
  all_goals subst hv
  case eql => exact ⟨_, by simp only [binOp, Op.stringOp, Sem.run_pure]; rfl, by rw [heq]; exact .bool _⟩
  case neq => exact ⟨_, by simp only [binOp, Op.stringOp, Sem.run_pure]; rfl, by rw [heq]; exact .bool _⟩
  case lss => exact ⟨_, by simp only [binOp, Op.stringOp, Sem.run_pure]; rfl, by rw [hlt]; exact .bool _⟩
  case leq => exact ⟨_, by simp only [binOp, Op.stringOp, Sem.run_pure]; rfl, by rw [hlt, heq]; exact .bool _⟩
  case gtr => exact ⟨_, by simp only [binOp, Op.stringOp, Sem.run_pure]; rfl, by rw [hlt, heq]; exact .bool _⟩
  case geq => exact ⟨_, by simp only [binOp, Op.stringOp, Sem.run_pure]; rfl, by rw [hlt]; exact .bool _⟩

theorem evEq_sim' (n : Nat) {t : Nat} {d : TypeDesc} (hd : P.underlying t = some d) {x y : Value} {a b : AV} (hx : VR G w x a) (hy : VR G w y b) {r : Bool} (hr : evEq (kindOf P d) a b = some r) :
    (Op.equalIn (n + 1) t x y).run P w = .ok r w := by
  generalize hk : kindOf P d = kk at hr
  unfold evEq at hr
  split at hr
  · have := kind_bool hk.symm
    subst this
    simp only [Option.some.injEq] at hr
    subst hr
    cases hx; cases hy
    simp [Op.equalIn, run_under hd]
  · have := kind_ptr hk.symm
    subst this
    simp only [Option.some.injEq] at hr
    subst hr
    cases hx
    cases hy <;> simp [Op.equalIn, run_under hd]
  · have := kind_ptr hk.symm
    subst this
    simp only [Option.some.injEq] at hr
    subst hr
    cases hx; cases hy
    simp [Op.equalIn, run_under hd]
  · obtain ⟨m, rfl⟩ := kind_iface hk.symm
    simp only [Option.some.injEq] at hr
    subst hr
    cases hx; cases hy
    simp [Op.equalIn, run_under hd]
  · obtain ⟨m, rfl⟩ := kind_iface hk.symm
    simp only [Option.some.injEq] at hr
    subst hr
    cases hx; cases hy
    simp [Op.equalIn, run_under hd]
  · simp at hr

theorem evEq_sim {t : Nat} {d : TypeDesc} (hd : P.underlying t = some d) {x y : Value} {a b : AV} (hx : VR G w x a) (hy : VR G w y b) {r : Bool} (hr : evEq (kindOf P d) a b = some r) :
    (Op.equal t x y).run P w = .ok r w := evEq_sim' 9999 hd hx hy hr

theorem evBin_sim {ty : Nat → Option TyI} (hT : TyOk P ty) {op : BinOp} {t : Nat} {x y : Value} {a b : AV} (hx : VR G w x a) (hy : VR G w y b) {v : AV} (hv : evBin ty op t a b = some v) (ox oy : Operand) :
    ∃ V, (do eqGuard op t ox oy x y; binOp op t x y : Sem Value).run P w = .ok V w ∧ VR G w V v := by
  unfold evBin at hv
  split at hv
  · rename_i k p j q
    cases hk : ikBeq k j with
    | false => rw [hk] at hv; simp at hv
    | true =>
      rw [hk] at hv
      have := ikBeq_eq.1 hk
      subst this
      cases hx; cases hy
      obtain ⟨V, h1, h2⟩ := evInt_sim (P := P) (G := G) (w := w) hv t
      refine ⟨V, ?_, h2⟩
      have hg : (eqGuard op t ox oy (.int k p) (.int k q)).run P w = .ok () w := by unfold eqGuard; cases op <;> simp
      simp only [Sem.run_bind, hg, Result.andThen_ok, h1]
  · rename_i p q
    cases hx; cases hy
    obtain ⟨V, h1, h2⟩ := evStr_sim (P := P) (G := G) (w := w) hv t
    refine ⟨V, ?_, h2⟩
    rename_i s1 s2
    have hg : (eqGuard op t ox oy (.string s1) (.string s2)).run P w = .ok () w := by unfold eqGuard; cases op <;> simp
    simp only [Sem.run_bind, hg, Result.andThen_ok, h1]
  · rename_i hni hns
    cases hty : ty t with
    | none => rw [hty] at hv; simp at hv
    | some i =>
      rw [hty] at hv
      obtain ⟨inf, d, hi, hd, hkd, _⟩ := tyOf_some (hT t i hty)
      have hcase : ∀ r, evEq i.kind a b = some r → (Op.equal t x y).run P w = .ok r w ∧ (∀ op, (op = .eql ∨ op = .neq) → (eqGuard op t ox oy x y).run P w = .ok () w) ∧ ((binOp .eql t x y) = (do pure (.bool (← Op.equal t x y)))) ∧ ((binOp .neq t x y) = (do pure (.bool (!(← Op.equal t x y))))) := by
        intro r hr
        refine ⟨evEq_sim hd hx hy (by rw [← hkd]; exact hr), ?_⟩
        unfold evEq at hr
        split at hr
        case h_6 => simp at hr
        all_goals
          cases hx
          cases hy
          all_goals
            refine ⟨fun op ho => ?_, ?_, ?_⟩
            · rcases ho with rfl | rfl <;> simp [eqGuard]
            · simp only [binOp]
            · simp only [binOp]
      cases op <;> simp only [reduceCtorEq] at hv
      case eql =>
        obtain ⟨r, hr, rfl⟩ := Option.map_eq_some_iff.1 hv
        obtain ⟨h1, h2, h3, _⟩ := hcase r hr
        refine ⟨.bool r, ?_, .bool r⟩
        simp only [Sem.run_bind, h2 .eql (.inl rfl), Result.andThen_ok, h3, h1, Sem.run_pure]
      case neq =>
        obtain ⟨r, hr, rfl⟩ := Option.map_eq_some_iff.1 hv
        obtain ⟨h1, h2, _, h3⟩ := hcase r hr
        refine ⟨.bool (!r), ?_, .bool _⟩
        simp only [Sem.run_bind, h2 .neq (.inr rfl), Result.andThen_ok, h3, h1, Sem.run_pure]
end

end Go.Ev
