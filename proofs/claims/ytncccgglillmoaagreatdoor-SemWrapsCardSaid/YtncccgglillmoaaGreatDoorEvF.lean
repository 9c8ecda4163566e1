/- Each operation of the abstract machine is the model's: numbers, strings, parts, rows. -/
import Derived.Test.YtncccgglillmoaaGreatDoorEvE
import Derived.Laws.Strings
import Derived.Laws.Small
import Derived.Laws.StructEq
set_option autoImplicit false
set_option linter.unusedSectionVars false
set_option linter.unusedVariables false
set_option linter.unusedSimpArgs false
namespace Go.Ev
variable [Inhabited KA0] [MT]

/-! ### Numbers and strings -/
theorem i64lo_spec {n : Int} (h : i64lo n = true) : -9223372036854775808 ≤ n ∧ n < 9223372036854775808 := by
  cases n with
  | ofNat m => simp only [i64lo, blt_nat] at h; simp only [Int.ofNat_eq_natCast]; constructor <;> omega
  | negSucc m => simp only [i64lo, blt_nat] at h; constructor <;> omega
theorem wrap_i64_in {n : Int} (h1 : -9223372036854775808 ≤ n) (h2 : n < 9223372036854775808) : IntKind.wrap .i64 n = n := by
  unfold IntKind.wrap
  have e : (2 ^ IntKind.bits .i64 : Int) = 18446744073709551616 := by decide
  have e2 : (2 ^ (IntKind.bits .i64 - 1) : Int) = 9223372036854775808 := by decide
  have e3 : IntKind.signed .i64 = true := rfl
  simp only [e, e2, e3, Bool.true_and, ge_iff_le, decide_eq_true_eq]
  split <;> omega
theorem wr_eq (k : IntKind) (n : Int) : wr k n = k.wrap n := by
  unfold wr
  split
  · cases h : i64lo n with
    | true => rw [cond_true]; obtain ⟨a, b⟩ := i64lo_spec h; exact (wrap_i64_in a b).symm
    | false => rfl
  · rfl
theorem ltI_eq (a b : Int) : ltI a b = decide (a < b) := by
  cases a <;> cases b <;> simp only [ltI]
  · rename_i m n
    by_cases h : m < n
    · rw [blt_nat.2 h]; symm; simp; omega
    · rw [blt_no h]; symm; simp; omega
  · symm; simp; omega
  · symm; simp; omega
  · rename_i m n
    by_cases h : n < m
    · rw [blt_nat.2 h]; symm; simp; omega
    · rw [blt_no h]; symm; simp; omega

theorem bytesOf_eq (a b : ByteArray) : (bytesOf a == bytesOf b) = (a.toList == b.toList) := by
  rw [ByteArray.toList_eq, ByteArray.toList_eq]
  unfold bytesOf
  by_cases h : a.data.toList = b.data.toList
  · rw [h]; simp
  · have : ¬ a.data.toList.map (·.toNat) = b.data.toList.map (·.toNat) := fun e => h ((List.map_inj_right (fun x y hxy => UInt8.toNat_inj.1 hxy)).1 e)
    rw [beq_eq_false_iff_ne.2 h, beq_eq_false_iff_ne.2 this]
theorem nLess_eq : ∀ (a b : List UInt8), nLess (a.map (·.toNat)) (b.map (·.toNat)) = Op.bytesLess a b
  | a, [] => by cases a <;> rfl
  | [], _ :: _ => rfl
  | x :: a, y :: b => by
    simp only [List.map_cons, nLess, Op.bytesLess, nLess_eq a b]
    congr 1
    · by_cases h : x < y
      · rw [blt_nat.2 (UInt8.lt_iff_toNat_lt.1 h)]; simp [h]
      · rw [blt_no (fun e => h (UInt8.lt_iff_toNat_lt.2 e))]; simp [h]
    · congr 1
      by_cases h : x = y
      · subst h; simp
      · rw [beq_no (fun e => h (UInt8.toNat_inj.1 e))]; simp [h]
theorem bytesOf_append (a b : ByteArray) : bytesOf (a ++ b) = bytesOf a ++ bytesOf b := by
  unfold bytesOf
  simp
theorem bytesOf_length (a : ByteArray) : (bytesOf a).length = a.size := by
  unfold bytesOf
  simp

section
variable {P : Program} {G : Gh} {w : World} {h : H}

theorem evInt_sim {op : BinOp} {k : IntKind} {a b : Int} {v : AV} (hv : evInt op k a b = some v) (t : Nat) :
    ∃ V, (binOp op t (.int k a) (.int k b)).run P w = .ok V w ∧ VR G w V v := by
  unfold evInt at hv
  cases op <;> simp only [Option.some.injEq, reduceCtorEq] at hv
  case quo =>
    cases hb : intBeq b 0 with
    | true => rw [hb] at hv; simp at hv
    | false =>
      rw [hb] at hv
      simp only [cond_false, Option.some.injEq] at hv
      subst hv
      have h0 : ¬ b = 0 := fun e => by subst e; simp [intBeq_eq] at hb
      exact ⟨.int k (k.wrap (a.tdiv b)), by simp [binOp, Op.intDiv, h0], by rw [wr_eq]; exact .int _ _⟩
  case rem =>
    cases hb : intBeq b 0 with
    | true => rw [hb] at hv; simp at hv
    | false =>
      rw [hb] at hv
      simp only [cond_false, Option.some.injEq] at hv
      subst hv
      have h0 : ¬ b = 0 := fun e => by subst e; simp [intBeq_eq] at hb
      exact ⟨.int k (a.tmod b), by simp [binOp, Op.intDiv, h0], .int _ _⟩
  all_goals subst hv
  case and => exact ⟨.int k (k.wrap (BitVec.ofInt k.bits a &&& BitVec.ofInt k.bits b).toNat), by simp only [binOp, Op.intBits, ne_eq, not_true_eq_false, if_false, Sem.run_pure], by rw [wr_eq]; exact .int _ _⟩
  case or => exact ⟨.int k (k.wrap (BitVec.ofInt k.bits a ||| BitVec.ofInt k.bits b).toNat), by simp only [binOp, Op.intBits, ne_eq, not_true_eq_false, if_false, Sem.run_pure], by rw [wr_eq]; exact .int _ _⟩
  case xor => exact ⟨.int k (k.wrap (BitVec.ofInt k.bits a ^^^ BitVec.ofInt k.bits b).toNat), by simp only [binOp, Op.intBits, ne_eq, not_true_eq_false, if_false, Sem.run_pure], by rw [wr_eq]; exact .int _ _⟩
  case add => exact ⟨.int k (k.wrap (a + b)), by simp [binOp, Op.intArith], by rw [wr_eq]; exact .int _ _⟩
  case sub => exact ⟨.int k (k.wrap (a - b)), by simp [binOp, Op.intArith], by rw [wr_eq]; exact .int _ _⟩
  case mul => exact ⟨.int k (k.wrap (a * b)), by simp [binOp, Op.intArith], by rw [wr_eq]; exact .int _ _⟩
  case eql => exact ⟨.bool (a == b), by simp [binOp, Op.intCmp], by rw [intBeq_eq]; exact .bool _⟩
  case neq => exact ⟨.bool (a != b), by simp [binOp, Op.intCmp], by rw [intBeq_eq]; exact .bool _⟩
  case lss => exact ⟨.bool (decide (a < b)), by simp [binOp, Op.intCmp], by rw [ltI_eq]; exact .bool _⟩
  case leq => exact ⟨.bool (decide (a ≤ b)), by simp [binOp, Op.intCmp], by
    have : (!ltI b a) = decide (a ≤ b) := by rw [ltI_eq]; by_cases h : b < a <;> simp [h] <;> omega
    rw [this]; exact .bool _⟩
  case gtr => exact ⟨.bool (decide (a > b)), by simp [binOp, Op.intCmp], by rw [ltI_eq]; exact .bool _⟩
  case geq => exact ⟨.bool (decide (a ≥ b)), by simp [binOp, Op.intCmp], by
    have : (!ltI a b) = decide (a ≥ b) := by rw [ltI_eq]; by_cases h : a < b <;> simp [h] <;> omega
    rw [this]; exact .bool _⟩

theorem evShift_sim {op : BinOp} {k j : IntKind} {a b : Int} {v : AV} (hv : evShift op k a b = some v) (t : Nat) :
    ∃ V, (binOp op t (.int k a) (.int j b)).run P w = .ok V w ∧ VR G w V v := by
  unfold evShift at hv
  split at hv
  · rename_i n
    simp only [Option.some.injEq] at hv
    subst hv
    refine ⟨.int k (k.wrap (a * 2 ^ (min n k.bits))), ?_, by rw [wr_eq]; exact (by simpa using VR.int (G := G) (w := w) k (k.wrap (a * 2 ^ (min n k.bits))))⟩
    simp [binOp, Op.shift]
    intro h
    omega
  · rename_i n
    simp only [Option.some.injEq] at hv
    subst hv
    refine ⟨.int k (a.fdiv (2 ^ (min n k.bits))), ?_, by simpa using VR.int (G := G) (w := w) k (a.fdiv (2 ^ (min n k.bits)))⟩
    simp [binOp, Op.shift]
    intro h
    omega
  · simp at hv

theorem evStr_sim {op : BinOp} {a b : ByteArray} {v : AV} (hv : evStr op (bytesOf a) (bytesOf b) = some v) (t : Nat) :
    ∃ V, (binOp op t (.string a) (.string b)).run P w = .ok V w ∧ VR G w V v := by
  have hlt : nLess (bytesOf a) (bytesOf b) = Op.bytesLess a.toList b.toList := by rw [ByteArray.toList_eq, ByteArray.toList_eq]; exact nLess_eq _ _
  have heq : natsBeq (bytesOf a) (bytesOf b) = (a.toList == b.toList) := by rw [natsBeq_eq, bytesOf_eq]
  unfold evStr at hv
  cases op <;> simp only [Option.some.injEq, reduceCtorEq] at hv
  case add =>
    cases hc : Nat.ble ((bytesOf a).length + (bytesOf b).length) 140737488355328 with
    | false => rw [hc] at hv; simp at hv
    | true =>
      rw [hc] at hv
      simp only [cond_true, Option.some.injEq] at hv
      subst hv
      have hle : (bytesOf a).length + (bytesOf b).length ≤ 140737488355328 := Nat.le_of_ble_eq_true hc
      rw [bytesOf_length, bytesOf_length] at hle
      refine ⟨.string (a ++ b), ?_, by rw [← bytesOf_append]; exact .str _⟩
      have hmax : ¬ (((a.size + b.size : Nat) : Int) > IntKind.i64.max) := by
        have : IntKind.i64.max = 9223372036854775807 := by decide
        rw [this]; omega
      simp only [binOp, Op.stringOp, hmax, if_false, Sem.run_pure]
  all_goals subst hv
  case eql => exact ⟨_, by simp only [binOp, Op.stringOp, Sem.run_pure]; rfl, by rw [heq]; exact .bool _⟩
  case neq => exact ⟨_, by simp only [binOp, Op.stringOp, Sem.run_pure]; rfl, by rw [heq]; exact .bool _⟩
  case lss => exact ⟨_, by simp only [binOp, Op.stringOp, Sem.run_pure]; rfl, by rw [hlt]; exact .bool _⟩
  case leq => exact ⟨_, by simp only [binOp, Op.stringOp, Sem.run_pure]; rfl, by rw [hlt, heq]; exact .bool _⟩
  case gtr => exact ⟨_, by simp only [binOp, Op.stringOp, Sem.run_pure]; rfl, by rw [hlt, heq]; exact .bool _⟩
  case geq => exact ⟨_, by simp only [binOp, Op.stringOp, Sem.run_pure]; rfl, by rw [hlt]; exact .bool _⟩

theorem evEq_sim' (n : Nat) {t : Nat} {d : TypeDesc} (hd : P.underlying t = some d) {x y : Value} {a b : AV} (hx : VR G w x a) (hy : VR G w y b) {r : Bool} (hr : evEq (kindOf P d) a b = some r) :
    (Op.equalIn (n + 1) t x y).run P w = .ok r w := by
  generalize hk : kindOf P d = kk at hr
  unfold evEq at hr
  split at hr
  · have := kind_bool hk.symm
    subst this
    simp only [Option.some.injEq] at hr
    subst hr
    cases hx; cases hy
    simp [Op.equalIn, run_under hd]
  · have := kind_ptr hk.symm
    subst this
    simp only [Option.some.injEq] at hr
    subst hr
    cases hx
    cases hy <;> simp [Op.equalIn, run_under hd]
  · have := kind_ptr hk.symm
    subst this
    simp only [Option.some.injEq] at hr
    subst hr
    cases hx; cases hy
    simp [Op.equalIn, run_under hd]
  · obtain ⟨m, rfl⟩ := kind_iface hk.symm
    simp only [Option.some.injEq] at hr
    subst hr
    cases hx; cases hy
    simp [Op.equalIn, run_under hd]
  · obtain ⟨m, rfl⟩ := kind_iface hk.symm
    simp only [Option.some.injEq] at hr
    subst hr
    cases hx; cases hy
    simp [Op.equalIn, run_under hd]
  · simp at hr

theorem evEq_sim {t : Nat} {d : TypeDesc} (hd : P.underlying t = some d) {x y : Value} {a b : AV} (hx : VR G w x a) (hy : VR G w y b) {r : Bool} (hr : evEq (kindOf P d) a b = some r) :
    (Op.equal t x y).run P w = .ok r w := evEq_sim' 9999 hd hx hy hr

theorem eqFlat_some {t : Nat} {l : List (Nat × Nat)} (h : eqFlat P t = some l) : P.underlying t = some (.struct (P.fieldsOf t)) ∧ (P.stoodInHeld t = false ∧ P.eqGuardType P.depth t = false) ∧ all0 (eqField P) (P.fieldsOf t).toList = some l := by
  unfold eqFlat at h
  split at h
  · rename_i fs hu
    have hf : P.fieldsOf t = fs := by simp [Program.fieldsOf, hu]
    split at h
    · rename_i h1 h2
      exact ⟨by rw [hf]; exact hu, ⟨h1, h2⟩, by rw [hf]; exact h⟩
    · simp at h
  · simp at h
theorem eqField_some {f : Field} {p : Nat × Nat} (h : eqField P f = some p) : f.name ≠ "_" ∧ ∃ i d, P.info? f.type = some i ∧ P.underlying f.type = some d ∧ isAggD d = false ∧ p.1 = f.offset ∧
    ((p.2 = 0 ∧ ∃ k, d = .int k) ∨ (p.2 = 1 ∧ d = .string) ∨ (p.2 = 2 ∧ d = .bool)) := by
  unfold eqField at h
  split at h
  · rename_i i k h1 h2 h3
    cases hb : Nat.beq i.size 1 with
    | false => rw [hb] at h; simp at h
    | true =>
      rw [hb] at h
      simp only [cond_true, Option.some.injEq] at h
      subst h
      exact ⟨by simpa using h1, i, _, h2, h3, rfl, rfl, .inl ⟨rfl, k, rfl⟩⟩
  · rename_i i h1 h2 h3
    cases hb : Nat.beq i.size 1 with
    | false => rw [hb] at h; simp at h
    | true =>
      rw [hb] at h
      simp only [cond_true, Option.some.injEq] at h
      subst h
      exact ⟨by simpa using h1, i, _, h2, h3, rfl, rfl, .inr (.inl ⟨rfl, rfl⟩)⟩
  · rename_i i h1 h2 h3
    cases hb : Nat.beq i.size 1 with
    | false => rw [hb] at h; simp at h
    | true =>
      rw [hb] at h
      simp only [cond_true, Option.some.injEq] at h
      subst h
      exact ⟨by simpa using h1, i, _, h2, h3, rfl, rfl, .inr (.inr ⟨rfl, rfl⟩)⟩
  · simp at h
theorem cellEq_str {x y : AV} {q : Bool} (h : cellEq 1 x y = some q) : ∃ a b, x = .str a ∧ y = .str b ∧ q = natsBeq a b := by
  unfold cellEq at h
  split at h
  · simp_all
  · exact ⟨_, _, rfl, rfl, by simpa using h.symm⟩
  · simp_all
  · simp at h
theorem cellEq_bool {x y : AV} {q : Bool} (h : cellEq 2 x y = some q) : ∃ a b, x = .bool a ∧ y = .bool b ∧ q = (a == b) := by
  unfold cellEq at h
  split at h
  · simp_all
  · simp_all
  · exact ⟨_, _, rfl, rfl, by simpa using h.symm⟩
  · simp at h
theorem evFlat_sim {xs ys : Array Value} {ca cb : List AV} (hx : xs.size = ca.length) (hx1 : ∀ (i : Nat) v x, xs[i]? = some v → ca[i]? = some x → VR G w v x)
    (hy : ys.size = cb.length) (hy1 : ∀ (i : Nat) v x, ys[i]? = some v → cb[i]? = some x → VR G w v x) : ∀ (fs : List Field) {l : List (Nat × Nat)} {r : Bool}, all0 (eqField P) fs = some l → evFlat l ca cb = some r → (Op.eqFields 9999 xs ys fs).run P w = .ok r w
  | [], l, r, h, hr => by
    simp [all0] at h
    subst h
    simp [evFlat] at hr
    subst hr
    simp [Op.eqFields]
  | f :: fs, l, r, h, hr => by
    simp only [all0] at h
    split at h
    · simp at h
    · rename_i p hp
      split at h
      · simp at h
      · rename_i m hm
        simp only [Option.some.injEq] at h
        subst h
        obtain ⟨off, c⟩ := p
        obtain ⟨hn, i, d, hi, hd, hag, ho, hc⟩ := eqField_some hp
        simp only at ho hc
        subst ho
        simp only [evFlat] at hr
        split at hr
        · rename_i x y ex ey
          have lx := getElem?_lt ex
          have ly := getElem?_lt ey
          rw [← hx] at lx
          rw [← hy] at ly
          have vx := hx1 f.offset xs[f.offset] x (Array.getElem?_eq_getElem lx) ex
          have vy := hy1 f.offset ys[f.offset] y (Array.getElem?_eq_getElem ly) ey
          have px : (part f.type xs f.offset).run P w = .ok xs[f.offset] w := by unfold part; simp [run_isAgg hd, hag, Array.getElem?_eq_getElem lx]
          have py : (part f.type ys f.offset).run P w = .ok ys[f.offset] w := by unfold part; simp [run_isAgg hd, hag, Array.getElem?_eq_getElem ly]
          have hcell : ∀ q, cellEq c x y = some q → (Op.equalIn 9999 f.type xs[f.offset] ys[f.offset]).run P w = .ok q w := by
            intro q hq
            generalize xs[f.offset] = X at vx
            generalize ys[f.offset] = Y at vy
            rcases hc with ⟨rfl, k', rfl⟩ | ⟨rfl, rfl⟩ | ⟨rfl, rfl⟩
            · unfold cellEq at hq
              split at hq
              · rename_i k a j b _
                cases hk : ikBeq k j with
                | false => rw [hk] at hq; simp at hq
                | true =>
                  rw [hk] at hq
                  have := ikBeq_eq.1 hk
                  subst this
                  simp only [cond_true, Option.some.injEq] at hq
                  cases vx; cases vy
                  rw [run_equalIn_int w 9998 f.type k k' a b hd, ← hq, intBeq_eq]
              all_goals simp_all
            · obtain ⟨p, q', rfl, rfl, rfl⟩ := cellEq_str hq
              cases vx; cases vy
              rename_i s1 s2
              rw [run_equalIn_string w 9998 f.type s1 s2 hd, natsBeq_eq, bytesOf_eq]
            · obtain ⟨p, q', rfl, rfl, rfl⟩ := cellEq_bool hq
              cases vx; cases vy
              rw [run_equalIn_bool' w 9998 f.type _ _ hd]
          cases hq : cellEq c x y with
          | none => rw [hq] at hr; simp at hr
          | some q =>
            rw [hq] at hr
            simp only [Op.eqFields, hn, ne_eq, not_false_eq_true, if_true, Sem.run_bind, px, py, Result.andThen_ok, hcell q hq]
            cases q with
            | false => simp only [Option.some.injEq] at hr; subst hr; simp
            | true => simpa using evFlat_sim hx hx1 hy hy1 fs hm hr
        · simp at hr

theorem evBin_sim {ty : Nat → Option TyI} (hT : TyOk P ty) {op : BinOp} {t : Nat} {x y : Value} {a b : AV} (hx : VR G w x a) (hy : VR G w y b) {v : AV} (hv : evBin ty op t a b = some v) (ox oy : Operand) :
    ∃ V, (do eqGuard op t ox oy x y; binOp op t x y : Sem Value).run P w = .ok V w ∧ VR G w V v := by
  unfold evBin at hv
  split at hv
  · rename_i k p j q
    cases hsh : isShift op with
    | true =>
      rw [hsh] at hv
      simp only [cond_true] at hv
      cases hx; cases hy
      obtain ⟨V, h1, h2⟩ := evShift_sim (P := P) (G := G) (w := w) (j := j) hv t
      refine ⟨V, ?_, h2⟩
      have hg : (eqGuard op t ox oy (.int k p) (.int j q)).run P w = .ok () w := by unfold eqGuard; cases op <;> simp
      simp only [Sem.run_bind, hg, Result.andThen_ok, h1]
    | false =>
    rw [hsh] at hv
    simp only [cond_false] at hv
    cases hk : ikBeq k j with
    | false => rw [hk] at hv; simp at hv
    | true =>
      rw [hk] at hv
      have := ikBeq_eq.1 hk
      subst this
      cases hx; cases hy
      obtain ⟨V, h1, h2⟩ := evInt_sim (P := P) (G := G) (w := w) hv t
      refine ⟨V, ?_, h2⟩
      have hg : (eqGuard op t ox oy (.int k p) (.int k q)).run P w = .ok () w := by unfold eqGuard; cases op <;> simp
      simp only [Sem.run_bind, hg, Result.andThen_ok, h1]
  · rename_i p q
    cases hx; cases hy
    obtain ⟨V, h1, h2⟩ := evStr_sim (P := P) (G := G) (w := w) hv t
    refine ⟨V, ?_, h2⟩
    rename_i s1 s2
    have hg : (eqGuard op t ox oy (.string s1) (.string s2)).run P w = .ok () w := by unfold eqGuard; cases op <;> simp
    simp only [Sem.run_bind, hg, Result.andThen_ok, h1]
  · rename_i ca cb
    cases hty : ty t with
    | none => rw [hty] at hv; simp at hv
    | some i =>
      rw [hty] at hv
      simp only at hv
      cases hef : i.eqf with
      | none => rw [hef] at hv; simp at hv
      | some l =>
        rw [hef] at hv
        simp only at hv
        cases hx with
        | agg xs _ hxa hx1 =>
        cases hy with
        | agg ys _ hya hy1 =>
        obtain ⟨ht1, ht2, ht3⟩ := eqFlat_some ((tyOf_eqf (hT t i hty)).symm.trans hef)
        have hq : ∀ r, evFlat l ca cb = some r → (Op.equalIn 10000 t (.agg xs) (.agg ys)).run P w = .ok r w := fun r hr => by
          rw [run_equalIn_struct w 9999 t xs ys ht1 ht2.1]
          exact evFlat_sim hxa hx1 hya hy1 _ ht3 hr
        have hg : (eqGuard op t ox oy (.agg xs) (.agg ys)).run P w = .ok () w := run_eqGuard_agg w op t ox oy xs ys ht2.2
        cases op <;> simp only [reduceCtorEq] at hv
        case eql =>
          obtain ⟨r, hr, rfl⟩ := Option.map_eq_some_iff.1 hv
          exact ⟨.bool r, by simp only [Sem.run_bind, hg, Result.andThen_ok, run_eql_struct, hq r hr], .bool r⟩
        case neq =>
          obtain ⟨r, hr, rfl⟩ := Option.map_eq_some_iff.1 hv
          exact ⟨.bool (!r), by simp only [Sem.run_bind, hg, Result.andThen_ok, run_neq_struct, hq r hr], .bool _⟩
  · rename_i hni hns hna
    cases hty : ty t with
    | none => rw [hty] at hv; simp at hv
    | some i =>
      rw [hty] at hv
      obtain ⟨inf, d, hi, hd, hkd, _⟩ := tyOf_some (hT t i hty)
      have hcase : ∀ r, evEq i.kind a b = some r → (Op.equal t x y).run P w = .ok r w ∧ (∀ op, (op = .eql ∨ op = .neq) → (eqGuard op t ox oy x y).run P w = .ok () w) ∧ ((binOp .eql t x y) = (do pure (.bool (← Op.equal t x y)))) ∧ ((binOp .neq t x y) = (do pure (.bool (!(← Op.equal t x y))))) := by
        intro r hr
        refine ⟨evEq_sim hd hx hy (by rw [← hkd]; exact hr), ?_⟩
        unfold evEq at hr
        split at hr
        case h_6 => simp at hr
        all_goals
          cases hx
          cases hy
          all_goals
            refine ⟨fun op ho => ?_, ?_, ?_⟩
            · rcases ho with rfl | rfl <;> simp [eqGuard]
            · simp only [binOp]
            · simp only [binOp]
      cases op <;> simp only [reduceCtorEq] at hv
      case eql =>
        obtain ⟨r, hr, rfl⟩ := Option.map_eq_some_iff.1 hv
        obtain ⟨h1, h2, h3, _⟩ := hcase r hr
        refine ⟨.bool r, ?_, .bool r⟩
        simp only [Sem.run_bind, h2 .eql (.inl rfl), Result.andThen_ok, h3, h1, Sem.run_pure]
      case neq =>
        obtain ⟨r, hr, rfl⟩ := Option.map_eq_some_iff.1 hv
        obtain ⟨h1, h2, _, h3⟩ := hcase r hr
        refine ⟨.bool (!r), ?_, .bool _⟩
        simp only [Sem.run_bind, h2 .neq (.inr rfl), Result.andThen_ok, h3, h1, Sem.run_pure]
theorem evNil_sim {ty : Nat → Option TyI} (hT : TyOk P ty) {op : BinOp} {t : Nat} {ox oy : Operand} {x y : Value} {a b : AV} (hx : VR G w x a) (hy : VR G w y b) (hn : nilCmp ox oy a b = true) {v : AV} (hv : evNil ty op t = some v) :
    ∃ V, (do eqGuard op t ox oy x y; binOp op t x y : Sem Value).run P w = .ok V w ∧ VR G w V v := by
  unfold nilCmp at hn
  split at hn
  · cases hx
    cases hy
    unfold evNil at hv
    split at hv
    · rename_i hty
      obtain ⟨inf, d, hi, hd, hkd, _⟩ := tyOf_some (hT t _ hty)
      obtain ⟨m, rfl⟩ := kind_iface hkd
      have k : ∀ n : Nat, (Op.equalIn (n + 1) t .nilIface .nilIface).run P w = .ok true w := fun n => by simp [Op.equalIn, run_under hd]
      have he : (Op.equal t .nilIface .nilIface).run P w = .ok true w := k 9999
      have hc : ((ox matches .const _) || (oy matches .const _)) = true := by
        rw [Bool.or_eq_true] at hn ⊢
        rcases hn with h | h
        · left; cases ox <;> simp [isConst] at h ⊢
        · right; cases oy <;> simp [isConst] at h ⊢
      have hg : ∀ op', (eqGuard op' t ox oy .nilIface .nilIface).run P w = .ok () w := by
        intro op'
        cases ox <;> cases oy <;> cases op' <;> first | (simp [eqGuard]; done) | (simp [isConst] at hn)
      split at hv
      · simp only [Option.some.injEq] at hv
        subst hv
        exact ⟨.bool true, by simp only [Sem.run_bind, hg, Result.andThen_ok, binOp, he, Sem.run_pure], .bool _⟩
      · simp only [Option.some.injEq] at hv
        subst hv
        exact ⟨.bool false, by simp only [Sem.run_bind, hg, Result.andThen_ok, binOp, he, Sem.run_pure, Bool.not_true], .bool _⟩
      · cases hv
    · cases hv
  · cases hn
end

end Go.Ev
