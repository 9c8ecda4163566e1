/- Values that name nothing of the heap: their owners forgotten. Rows of numbers, put in order. -/
import Derived.Test.YtncccgglillmoaaGreatDoorEwD
set_option autoImplicit false
set_option linter.unusedSectionVars false
set_option linter.unusedVariables false
set_option linter.unusedSimpArgs false
namespace Go.Ev
variable [Inhabited KA0] [MT]

mutual
def AV.bareF : AV → Option AV
  | .bool b => some (.bool b)
  | .int k n => some (.int k n)
  | .str s => some (.str s)
  | .ptr none => some (.ptr none)
  | .sl _ els => match AV.baresF els with
    | some l => some (.sl .no l)
    | none => none
  | .map none => some (.map none)
  | .nilFn => some .nilFn
  | .nilIface => some .nilIface
  | .agg cs => match AV.baresF cs with
    | some l => some (.agg l)
    | none => none
  | .tup cs => match AV.baresF cs with
    | some l => some (.tup l)
    | none => none
  | _ => none
def AV.baresF : List AV → Option (List AV)
  | [] => some []
  | a :: l => match AV.bareF a with
    | none => none
    | some b => match AV.baresF l with
      | none => none
      | some m => some (b :: m)
end
mutual
theorem bareF_wk : ∀ (v u : AV), v.bareF = some u → v.wk 0 u ∧ u.wk 0 u
  | .bool _, u, h => by simp [AV.bareF] at h; subst h; simp [AV.wk]
  | .int _ _, u, h => by simp [AV.bareF] at h; subst h; simp [AV.wk]
  | .str _, u, h => by simp [AV.bareF] at h; subst h; simp [AV.wk]
  | .ptr none, u, h => by simp [AV.bareF] at h; subst h; simp [AV.wk]
  | .ptr (some _), u, h => by simp [AV.bareF] at h
  | .vp _, u, h => by simp [AV.bareF] at h
  | .sl o els, u, h => by
    simp only [AV.bareF] at h
    cases hb : AV.baresF els with
    | none => rw [hb] at h; simp at h
    | some l =>
      rw [hb] at h
      simp only [Option.some.injEq] at h
      subst h
      have := baresF_wk els l hb
      exact ⟨wk_sl.2 ⟨own_no, this.1⟩, wk_sl.2 ⟨own_no, this.2⟩⟩
  | .map none, u, h => by simp [AV.bareF] at h; subst h; simp [AV.wk]
  | .map (some _), u, h => by simp [AV.bareF] at h
  | .fn _ _ _, u, h => by simp [AV.bareF] at h
  | .nilFn, u, h => by simp [AV.bareF] at h; subst h; simp [AV.wk]
  | .iface _ _, u, h => by simp [AV.bareF] at h
  | .nilIface, u, h => by simp [AV.bareF] at h; subst h; simp [AV.wk]
  | .agg els, u, h => by
    simp only [AV.bareF] at h
    cases hb : AV.baresF els with
    | none => rw [hb] at h; simp at h
    | some l =>
      rw [hb] at h
      simp only [Option.some.injEq] at h
      subst h
      have := baresF_wk els l hb
      exact ⟨wk_agg.2 this.1, wk_agg.2 this.2⟩
  | .tup els, u, h => by
    simp only [AV.bareF] at h
    cases hb : AV.baresF els with
    | none => rw [hb] at h; simp at h
    | some l =>
      rw [hb] at h
      simp only [Option.some.injEq] at h
      subst h
      have := baresF_wk els l hb
      exact ⟨wk_tup.2 this.1, wk_tup.2 this.2⟩
  | .rs _ _ _, u, h => by simp [AV.bareF] at h
  | .rp _ _ _, u, h => by simp [AV.bareF] at h
theorem baresF_wk : ∀ (l m : List AV), AV.baresF l = some m → AV.wks 0 l m ∧ AV.wks 0 m m
  | [], m, h => by simp [AV.baresF] at h; subst h; simp [AV.wks]
  | a :: l, m, h => by
    simp only [AV.baresF] at h
    cases ha : AV.bareF a with
    | none => rw [ha] at h; simp at h
    | some b =>
      cases hl : AV.baresF l with
      | none => rw [ha, hl] at h; simp at h
      | some k =>
        rw [ha, hl] at h
        simp only [Option.some.injEq] at h
        subst h
        have h1 := bareF_wk a b ha
        have h2 := baresF_wk l k hl
        exact ⟨wks_cons.2 ⟨h1.1, h2.1⟩, wks_cons.2 ⟨h1.2, h2.2⟩⟩
end

/-! What values show while nothing is written: rows in the heap are read. -/
def chunks (s : Nat) : Nat → List AV → List AV
  | 0, _ => []
  | n + 1, cs => .agg (cs.take s) :: chunks s n (cs.drop s)
theorem chunks_get (s : Nat) : ∀ (n : Nat) (cs : List AV) (i : Nat) (x : AV), (chunks s n cs)[i]? = some x → i < n ∧ x = .agg ((cs.drop (i * s)).take s)
  | 0, cs, i, x, h => by simp [chunks] at h
  | n + 1, cs, 0, x, h => by
    simp only [chunks, List.getElem?_cons_zero, Option.some.injEq] at h
    subst h
    exact ⟨Nat.succ_pos n, by rw [Nat.zero_mul, List.drop_zero]⟩
  | n + 1, cs, i + 1, x, h => by
    simp only [chunks, List.getElem?_cons_succ] at h
    obtain ⟨h1, h2⟩ := chunks_get s n _ i x h
    exact ⟨Nat.succ_lt_succ h1, by rw [h2, List.drop_drop, Nat.add_mul, Nat.one_mul, Nat.add_comm]⟩
theorem chunks_length (s : Nat) : ∀ (n : Nat) (cs : List AV), (chunks s n cs).length = n
  | 0, _ => rfl
  | n + 1, cs => by rw [chunks, List.length_cons, chunks_length s n]
def snapStep (f : AV → Option AV) (h : H) (v : AV) : Option AV :=
  match v with
  | .bool b => some (.bool b)
  | .int j n => some (.int j n)
  | .str s => some (.str s)
  | .ptr none => some (.ptr none)
  | .map none => some (.map none)
  | .nilFn => some .nilFn
  | .nilIface => some .nilIface
  | .sl _ els => match all0 f els with
    | some l => some (.sl .no l)
    | none => none
  | .agg cs => match all0 f cs with
    | some l => some (.agg l)
    | none => none
  | .tup cs => match all0 f cs with
    | some l => some (.tup l)
    | none => none
  | .rs id len _ => match h.t.get id with
    | some (.row n _ s cs) => bif Nat.beq n len && Nat.beq cs.length (n * s) then match all0 f cs with
      | some l => some (.sl .no (chunks s len l))
      | none => none
      else none
    | _ => none
  | _ => none
def snapAV : Nat → H → AV → Option AV
  | 0, _, _ => none
  | k + 1, h, v => snapStep (snapAV k h) h v
theorem all0_get {α β : Type} {f : α → Option β} : ∀ {l : List α} {m : List β}, all0 f l = some m → l.length = m.length ∧ ∀ (i : Nat) x y, l[i]? = some x → m[i]? = some y → f x = some y
  | [], m, h => by simp [all0] at h; subst h; exact ⟨rfl, fun i x y h => by simp at h⟩
  | a :: l, m, h => by
    simp only [all0] at h
    cases ha : f a with
    | none => rw [ha] at h; simp at h
    | some b =>
      cases hl : all0 f l with
      | none => rw [ha, hl] at h; simp at h
      | some k =>
        rw [ha, hl] at h
        simp only [Option.some.injEq] at h
        subst h
        obtain ⟨h1, h2⟩ := all0_get hl
        refine ⟨by simp [h1], fun i x y hx hy => ?_⟩
        cases i with
        | zero => simp at hx hy; subst hx; subst hy; exact ha
        | succ i => exact h2 i x y (by simpa using hx) (by simpa using hy)
theorem all0_mono {α β : Type} {f g : α → Option β} (hfg : ∀ a b, f a = some b → g a = some b) : ∀ {l : List α} {m : List β}, all0 f l = some m → all0 g l = some m
  | [], m, h => h
  | a :: l, m, h => by
    simp only [all0] at h ⊢
    cases ha : f a with
    | none => rw [ha] at h; simp at h
    | some b =>
      cases hl : all0 f l with
      | none => rw [ha, hl] at h; simp at h
      | some k => rw [hfg a b ha, all0_mono hfg hl]; rw [ha, hl] at h; exact h
theorem snapStep_mono {f g : AV → Option AV} (hfg : ∀ a b, f a = some b → g a = some b) {h : H} {v u : AV} (hs : snapStep f h v = some u) : snapStep g h v = some u := by
  cases v with
  | sl o els =>
    simp only [snapStep] at hs ⊢
    split at hs
    · rename_i l hl; rw [all0_mono hfg hl]; exact hs
    · cases hs
  | agg els =>
    simp only [snapStep] at hs ⊢
    split at hs
    · rename_i l hl; rw [all0_mono hfg hl]; exact hs
    · cases hs
  | tup els =>
    simp only [snapStep] at hs ⊢
    split at hs
    · rename_i l hl; rw [all0_mono hfg hl]; exact hs
    · cases hs
  | rs id len own =>
    simp only [snapStep] at hs ⊢
    split at hs
    · rename_i n e s cs hg
      cases hc : (Nat.beq n len && Nat.beq cs.length (n * s)) with
      | false => rw [hc] at hs; simp at hs
      | true =>
        rw [hc] at hs
        simp only [cond_true] at hs ⊢
        split at hs
        · rename_i l hl; rw [all0_mono hfg hl]; exact hs
        · cases hs
    · cases hs
  | ptr a => cases a <;> exact hs
  | map a => cases a <;> exact hs
  | bool _ => exact hs
  | int _ _ => exact hs
  | str _ => exact hs
  | nilFn => exact hs
  | nilIface => exact hs
  | vp _ => exact hs
  | fn _ _ _ => exact hs
  | iface _ _ => exact hs
  | rp _ _ _ => exact hs
theorem snap_more {h : H} : ∀ {k : Nat} {v u : AV}, snapAV k h v = some u → snapAV (k + 1) h v = some u := by
  intro k
  induction k with
  | zero => intro v u hs; simp [snapAV] at hs
  | succ k ih => intro v u hs; exact snapStep_mono (fun a b => ih) hs
/-- What is shown has the same cells, one by one. -/
theorem snap_cells {k : Nat} {h : H} {x u : AV} (hs : snapAV (k + 1) h x = some u) : x.cells.length = u.cells.length ∧ ∀ (j : Nat) y z, x.cells[j]? = some y → u.cells[j]? = some z → snapAV (k + 1) h y = some z ∨ snapAV k h y = some z := by
  have one : x.cells = [x] → u.cells = [u] → x.cells.length = u.cells.length ∧ ∀ (j : Nat) y z, x.cells[j]? = some y → u.cells[j]? = some z → snapAV (k + 1) h y = some z ∨ snapAV k h y = some z := by
    intro e1 e2
    rw [e1, e2]
    refine ⟨rfl, fun j y z hy hz => ?_⟩
    cases j with
    | zero => simp at hy hz; subst hy; subst hz; exact .inl hs
    | succ j => simp at hy
  cases x with
  | agg cs =>
    simp only [snapAV, snapStep] at hs
    cases hl : all0 (snapAV k h) cs with
    | none => rw [hl] at hs; simp at hs
    | some l =>
      rw [hl] at hs
      simp only [Option.some.injEq] at hs
      subst hs
      obtain ⟨h1, h2⟩ := all0_get hl
      exact ⟨h1, fun j y z hy hz => .inr (h2 j y z hy hz)⟩
  | sl o els =>
    refine one rfl ?_
    simp only [snapAV, snapStep] at hs
    split at hs
    · injection hs with hs; subst hs; rfl
    · cases hs
  | rs id len o =>
    refine one rfl ?_
    simp only [snapAV, snapStep] at hs
    split at hs
    · rename_i n e s cs hg
      cases hc : (Nat.beq n len && Nat.beq cs.length (n * s)) with
      | false => rw [hc] at hs; simp at hs
      | true =>
        rw [hc] at hs
        simp only [cond_true] at hs
        split at hs
        · injection hs with hs; subst hs; rfl
        · cases hs
    · cases hs
  | ptr a =>
    refine one rfl ?_
    cases a <;> simp only [snapAV, snapStep, reduceCtorEq, Option.some.injEq] at hs
    subst hs; rfl
  | map a =>
    refine one rfl ?_
    cases a <;> simp only [snapAV, snapStep, reduceCtorEq, Option.some.injEq] at hs
    subst hs; rfl
  | bool b => refine one rfl ?_; simp only [snapAV, snapStep, Option.some.injEq] at hs; subst hs; rfl
  | int j n => refine one rfl ?_; simp only [snapAV, snapStep, Option.some.injEq] at hs; subst hs; rfl
  | str b => refine one rfl ?_; simp only [snapAV, snapStep, Option.some.injEq] at hs; subst hs; rfl
  | nilFn => refine one rfl ?_; simp only [snapAV, snapStep, Option.some.injEq] at hs; subst hs; rfl
  | nilIface => refine one rfl ?_; simp only [snapAV, snapStep, Option.some.injEq] at hs; subst hs; rfl
  | vp _ => simp [snapAV, snapStep] at hs
  | fn _ _ _ => simp [snapAV, snapStep] at hs
  | iface _ _ => simp [snapAV, snapStep] at hs
  | tup els =>
    refine one rfl ?_
    simp only [snapAV, snapStep] at hs
    split at hs
    · injection hs with hs; subst hs; rfl
    · cases hs
  | rp _ _ _ => simp [snapAV, snapStep] at hs
/-- All that is there is looked at alone. -/
def Gz (G : Gh) : Gh := { G with fr := fun _ => none }
theorem invz {G : Gh} {w : World} {h : H} (I : Inv G w h) : Inv (Gp (Gz G)) w ⟨.e, 0⟩ where
  wf := fun id o h => by cases id <;> simp [T.get] at h
  frb := fun b k h => by simp [Gp, Gz] at h
  bas := I.bas
  obj := fun id b h => by simp [Gp] at h
  chn := fun id n v h => by simp [Gp] at h
  ka := fun p hp => ⟨(I.ka p hp).1, (I.ka p hp).2.1, rfl⟩
theorem snap_to {G G' : Gh} {w : World} {h : H} (I : Inv G w h) (hS : ∀ b o x, Stb G w b o x → Stb G' w b o x) (hR : ∀ b id, G.ow b = some id → G'.fr b = none) : ∀ (k : Nat) (v u : AV) (V : Value), snapAV k h v = some u → VR G w V v → VR G' w V u := by
  intro k
  induction k with
  | zero => intro v u V hs; simp [snapAV, snapStep] at hs
  | succ k ih =>
    intro v u V hs r
    cases v with
    | bool b => simp only [snapAV, snapStep, Option.some.injEq] at hs; subst hs; cases r; exact .bool _
    | int j n => simp only [snapAV, snapStep, Option.some.injEq] at hs; subst hs; cases r; exact .int _ _
    | str b => simp only [snapAV, snapStep, Option.some.injEq] at hs; subst hs; cases r; exact .str _
    | nilFn => simp only [snapAV, snapStep, Option.some.injEq] at hs; subst hs; cases r; exact .nilFn
    | nilIface => simp only [snapAV, snapStep, Option.some.injEq] at hs; subst hs; cases r; exact .nilIface
    | ptr a => cases a <;> simp only [snapAV, snapStep, reduceCtorEq, Option.some.injEq] at hs; subst hs; cases r; exact .ptr0
    | map a => cases a <;> simp only [snapAV, snapStep, reduceCtorEq, Option.some.injEq] at hs; subst hs; cases r; exact .map0
    | vp _ => simp [snapAV, snapStep] at hs
    | fn _ _ _ => simp [snapAV, snapStep] at hs
    | iface _ _ => simp [snapAV, snapStep] at hs
    | rp _ _ _ => simp [snapAV, snapStep] at hs
    | tup cs =>
      simp only [snapAV, snapStep] at hs
      split at hs
      · rename_i l hl
        injection hs with hs
        subst hs
        obtain ⟨h1, h2⟩ := all0_get hl
        cases r with
        | tup a c ha hr =>
          refine .tup a l (by rw [ha, h1]) fun i v x hv hx => ?_
          have hil : i < cs.length := by rw [h1]; exact getElem?_lt hx
          exact ih _ _ _ (h2 i _ _ (List.getElem?_eq_getElem hil) hx) (hr i v _ hv (List.getElem?_eq_getElem hil))
      · cases hs
    | agg cs =>
      simp only [snapAV, snapStep] at hs
      split at hs
      · rename_i l hl
        injection hs with hs
        subst hs
        obtain ⟨h1, h2⟩ := all0_get hl
        cases r with
        | agg a c ha hr =>
          refine .agg a l (by rw [ha, h1]) fun i v x hv hx => ?_
          have hil : i < cs.length := by rw [h1]; exact getElem?_lt hx
          exact ih _ _ _ (h2 i _ _ (List.getElem?_eq_getElem hil) hx) (hr i v _ hv (List.getElem?_eq_getElem hil))
      · cases hs
    | sl o els =>
      simp only [snapAV, snapStep] at hs
      split at hs
      · rename_i l hl
        injection hs with hs
        subst hs
        obtain ⟨h1, h2⟩ := all0_get hl
        cases k with
        | zero =>
          cases els with
          | nil =>
            have : l = [] := List.eq_nil_of_length_eq_zero h1.symm
            subst this
            cases r with
            | sl0 A cap o hn ho => exact .sl0 A cap .no hn trivial
            | sl b off len cap s o els f hl' hc hs' h3 h4 ho => exact .sl b off len cap s .no [] f hl' hc hs' (fun i j hi => by simp at hl'; omega) (fun i j x y hx => by simp at hx) trivial
          | cons a els => simp [all0, snapAV] at hl
        | succ k =>
          cases r with
          | sl0 A cap o hn ho =>
            have : l = [] := List.eq_nil_of_length_eq_zero h1.symm
            subst this
            exact .sl0 A cap .no hn trivial
          | sl b off len cap s o els f hl' hc hs' h3 h4 ho =>
            have hx' : ∀ (i : Nat) y, l[i]? = some y → ∃ x, els[i]? = some x ∧ snapAV (k + 1) h x = some y := fun i y hy => by
              have hil : i < els.length := by rw [h1]; exact getElem?_lt hy
              exact ⟨_, List.getElem?_eq_getElem hil, h2 i _ _ (List.getElem?_eq_getElem hil) hy⟩
            refine .sl b off len cap s .no l f (by rw [← h1, hl']) hc (fun x hx => ?_) (fun i j hi hj => hS _ _ _ (h3 i j hi hj)) (fun i j x y hx hy => ?_) trivial
            · obtain ⟨i, hi⟩ := List.getElem?_of_mem hx
              obtain ⟨x0, hx0, hs0⟩ := hx' i x hi
              rw [← (snap_cells hs0).1]
              exact hs' _ (List.mem_of_getElem? hx0)
            · obtain ⟨x0, hx0, hs0⟩ := hx' i x hx
              obtain ⟨c1, c2⟩ := snap_cells hs0
              have hjl : j < x0.cells.length := by rw [c1]; exact getElem?_lt hy
              have hr := h4 i j x0 _ hx0 (List.getElem?_eq_getElem hjl)
              rcases c2 j _ y (List.getElem?_eq_getElem hjl) hy with e | e
              · exact ih _ _ _ e hr
              · exact ih _ _ _ (snap_more e) hr
      · cases hs
    | rs id len own =>
      simp only [snapAV, snapStep] at hs
      split at hs
      · rename_i n e s cs hg
        cases hc : (Nat.beq n len && Nat.beq cs.length (n * s)) with
        | false => rw [hc] at hs; simp at hs
        | true =>
          rw [hc] at hs
          simp only [cond_true] at hs
          simp only [Bool.and_eq_true, beq_nat] at hc
          obtain ⟨rfl, hcl⟩ := hc
          split at hs
          · rename_i l hl
            injection hs with hs
            subst hs
            obtain ⟨h1, h2⟩ := all0_get hl
            cases r with
            | rs _ _ b cap _ hcap hrow =>
              obtain ⟨cur, cap1, hb, _, _, _, _, _, _, hv, _, how, hspos, _⟩ := I.row hrow hg
              have hel : ∀ (i : Nat) x, (chunks s n l)[i]? = some x → i < n ∧ x = .agg ((l.drop (i * s)).take s) ∧ ((l.drop (i * s)).take s).length = s := by
                intro i x hx
                obtain ⟨q1, q2⟩ := chunks_get s n l i x hx
                refine ⟨q1, q2, ?_⟩
                rw [List.length_take, List.length_drop, ← h1, hcl]
                have := Nat.mul_le_mul_right s (Nat.succ_le_of_lt q1)
                rw [Nat.succ_mul] at this
                omega
              have hcell : ∀ (q : Nat) x, cs[q]? = some x → ∃ V, w.cell? ⟨b, q, none⟩ = some V ∧ VR G w V x := by
                intro q x hx
                have hq : q < (cur.toList.take (n * s)).length := by rw [hv.1]; exact getElem?_lt hx
                refine ⟨_, ?_, hv.2 q _ x (List.getElem?_eq_getElem hq) hx⟩
                rw [cell_at hb]
                have hq2 := hq
                rw [List.length_take] at hq2
                rw [List.getElem_take]
                have : q < cur.size := by have := Nat.lt_of_lt_of_le hq2 (Nat.min_le_right ..); simpa using this
                simp [this]
              have hat : ∀ i j, i < n → j < s → i * s + j < cs.length := by
                intro i j hi hj
                rw [hcl]
                have := Nat.mul_le_mul_right s (Nat.succ_le_of_lt hi)
                rw [Nat.succ_mul] at this
                omega
              refine .sl b 0 n cap s .no _ (fun i j => (w.cell? ⟨b, i * s + j, none⟩).getD undef) (chunks_length s n l) hcap (fun x hx => ?_) (fun i j hi hj => ?_) (fun i j x y hx hy => ?_) trivial
              · obtain ⟨i, hi⟩ := List.getElem?_of_mem hx
                obtain ⟨_, q2, q3⟩ := hel i x hi
                rw [q2]; exact q3
              · obtain ⟨V, hV, _⟩ := hcell _ _ (List.getElem?_eq_getElem (hat i j hi hj))
                rw [Nat.zero_add, hV]
                exact ⟨hV, .inl (hR _ _ how)⟩
              · obtain ⟨q1, q2, q3⟩ := hel i x hx
                subst q2
                have hj : j < s := by rw [← q3]; exact getElem?_lt hy
                simp only [AV.cells, List.getElem?_take_of_lt hj, List.getElem?_drop] at hy
                obtain ⟨V, hV, hr⟩ := hcell _ _ (List.getElem?_eq_getElem (hat i j q1 hj))
                rw [hV]
                exact ih _ _ _ (h2 _ _ _ (List.getElem?_eq_getElem (hat i j q1 hj)) hy) hr
          · cases hs
      · cases hs
theorem snap_VR {G : Gh} {w : World} {h : H} (I : Inv G w h) (k : Nat) (v u : AV) (V : Value) (hs : snapAV k h v = some u) (r : VR G w V v) : VR (Gp (Gz G)) w V u :=
  snap_to I (fun b o x s => ⟨s.1, .inl rfl⟩) (fun b id _ => rfl) k v u V hs r
/-- A primitive of what its arguments show. -/
def primSnap (k : Nat) (p : List AV → Option AV) : List AV → H → Option (AV × H) := fun args h =>
  match all0 (snapAV k h) args with
  | none => none
  | some args' => match p args' with
    | none => none
    | some v => some (v, h)
theorem primSnap_ok {P : Program} {f k : Nat} {fn : Func} (q1 : P.funcs[f]? = some fn) (q2 : (fn.name == "runtime.NumGoroutine") = false) (q3 : fn.body.isNone = false) {p : List AV → Option AV}
    (hp : ∀ args v, p args = some v → ∀ (G : Gh) (w : World) (A : Array Value), Inv (Gp G) w ⟨.e, 0⟩ → VRs (Gp G) w A.toList args →
      Calls P f A w fun e w' => ∃ V, e = .returned V ∧ Old w w' ∧ ∀ G' : Gh, (∀ b, w.heap.size ≤ b → G'.fr b = none) → VR G' w' V v) : PrimOk P f (primSnap k p) := by
  refine ⟨⟨fn, q1, q2, q3⟩, fun args h v hk he G w A I hA => ?_⟩
  unfold primSnap at he
  cases hs : all0 (snapAV k h) args with
  | none => rw [hs] at he; simp at he
  | some args' =>
    rw [hs] at he
    simp only at he
    cases hv : p args' with
    | none => rw [hv] at he; simp at he
    | some v0 =>
      rw [hv] at he
      simp only [Option.some.injEq, Prod.mk.injEq] at he
      obtain ⟨rfl, rfl⟩ := he
      obtain ⟨h1, h2⟩ := all0_get hs
      have hA' : VRs (Gp (Gz G)) w A.toList args' := ⟨by rw [hA.1, h1], fun i u x hu hx => by
        have hil : i < args.length := by rw [h1]; exact getElem?_lt hx
        exact snap_VR I k _ _ _ (h2 i _ _ (List.getElem?_eq_getElem hil) hx) (hA.2 i u _ hu (List.getElem?_eq_getElem hil))⟩
      refine (hp args' v0 hv (Gz G) w A (invz I) hA').mono ?_
      rintro e w' ⟨V, rfl, O, hV⟩
      refine ⟨G, V, rfl, hV G fun b hb => ?_, grow_inv I O.os O.tape O.output O.size O.same, grow_ext G _ O.os O.tape O.output O.size O.same⟩
      cases hf : G.fr b with
      | none => rfl
      | some k => exact absurd (I.frb b k hf).2 (by omega)

/-! Calls that are known: what is named in a table is taken from it. -/
def tabLook (a : List AV) : List (List AV × AV) → Option AV
  | [] => none
  | (b, v) :: l => bif AV.beqs a b then some v else tabLook a l
theorem tabLook_mem {a : List AV} {v : AV} : ∀ {l : List (List AV × AV)}, tabLook a l = some v → (a, v) ∈ l
  | [], h => by simp [tabLook] at h
  | (b, u) :: l, h => by
    simp only [tabLook] at h
    cases hb : AV.beqs a b with
    | true =>
      rw [hb] at h
      simp only [cond_true, Option.some.injEq] at h
      rw [AV.beqs_eq _ _ hb, h]
      exact List.mem_cons_self ..
    | false => rw [hb] at h; exact List.mem_cons_of_mem _ (tabLook_mem h)
def primTab (tab : List (List AV × AV)) (args : List AV) (h : H) : Option (AV × H) :=
  match AV.baresF args with
  | none => none
  | some a => match tabLook a tab with
    | none => none
    | some v => some (v, h)
/-- A call on the empty heap shows this. -/
def runIs (E : Env) (k f n : Nat) (a : List AV) (v : AV) : Bool :=
  match evFn E k f a ⟨.e, 0⟩ with
  | none => false
  | some (u, h) => match snapAV n h u with
    | none => false
    | some x => AV.beq x v
theorem runIs_some {E : Env} {k f n : Nat} {a : List AV} {v : AV} (h : runIs E k f n a v = true) : ∃ u h1, evFn E k f a ⟨.e, 0⟩ = some (u, h1) ∧ snapAV n h1 u = some v := by
  unfold runIs at h
  split at h
  · cases h
  · rename_i u h1 he
    split at h
    · cases h
    · rename_i x hx
      exact ⟨u, h1, he, by rw [hx, AV.beq_eq _ _ h]⟩
theorem primTab_ok {P : Program} {E : Env} (hE : EnvOk P E) {f k n : Nat} {fn : Func} (q1 : P.funcs[f]? = some fn) (q2 : (fn.name == "runtime.NumGoroutine") = false) (q3 : fn.body.isNone = false) {tab : List (List AV × AV)}
    (ht : ∀ e ∈ tab, runIs E k f n e.1 e.2 = true) : PrimOk P f (primTab tab) := by
  refine ⟨⟨fn, q1, q2, q3⟩, fun args h v hk he G w A I hA => ?_⟩
  unfold primTab at he
  cases hb : AV.baresF args with
  | none => rw [hb] at he; simp at he
  | some a =>
    rw [hb] at he
    simp only at he
    cases hv : tabLook a tab with
    | none => rw [hv] at he; simp at he
    | some v0 =>
      rw [hv] at he
      simp only [Option.some.injEq, Prod.mk.injEq] at he
      obtain ⟨rfl, rfl⟩ := he
      obtain ⟨u, h1, hr, hs⟩ := runIs_some (ht _ (tabLook_mem hv))
      have hA' : VRs (Gp G) w A.toList a := VRs.wk (n := 0) (G := G) (G' := Gp G) (fun b o v s => s) (fun id b hi => by omega) (fun id m v hi => by omega) hA (baresF_wk _ _ hb).1
      refine ((fn_sim hE k f a ⟨.e, 0⟩ _ _ hr).2 (Gp G) w A (invp I) hA').mono ?_
      rintro e w' ⟨G1, V, rfl, hV, I1, X⟩
      have same : ∀ j, j < w.heap.size → w'.heap[j]? = w.heap[j]? := fun j hj => (X.own j hj rfl).1
      have new : ∀ b, w.heap.size ≤ b → G.fr b = none := fun b hb => by
        cases hf : G.fr b with
        | none => rfl
        | some k => exact absurd (I.frb b k hf).2 (by omega)
      refine ⟨G, V, rfl, snap_to I1 (fun b o x s => ⟨s.1, ?_⟩) (fun b id ho => ?_) n u v0 V hs hV, grow_inv I X.os X.tape X.output X.size same, grow_ext G _ X.os X.tape X.output X.size same⟩
      · by_cases hbl : b < w.heap.size
        · have := s.2
          rw [(X.own b hbl rfl).2.1] at this
          exact this
        · exact .inl (new b (by omega))
      · by_cases hbl : b < w.heap.size
        · rw [(X.own b hbl rfl).2.2] at ho
          cases ho
        · exact new b (by omega)

/-! Rows of numbers -/
def intsOf : List AV → Option (List Int)
  | [] => some []
  | .int .i64 n :: l => match intsOf l with
    | none => none
    | some m => some (n :: m)
  | _ :: _ => none
theorem intsOf_some : ∀ {l : List AV} {m : List Int}, intsOf l = some m → l = m.map (AV.int .i64)
  | [], m, h => by simp [intsOf] at h; subst h; rfl
  | a :: l, m, h => by
    unfold intsOf at h
    split at h
    · rename_i heq; cases heq
    rename_i n l' heq
    cases heq
    cases hm : intsOf l with
    | none => rw [hm] at h; simp at h
    | some q =>
      rw [hm] at h
      simp only [Option.some.injEq] at h
      subst h
      rw [intsOf_some hm]
      rfl
    · cases h
def insU (v : Int) : List Int → List Int
  | [] => [v]
  | a :: l => bif ltI v a then v :: a :: l else bif intBeq v a then a :: l else a :: insU v l
def sortU : List Int → List Int
  | [] => []
  | a :: l => insU a (sortU l)
theorem insU_mem (v : Int) : ∀ (l : List Int) (x : Int), x ∈ insU v l ↔ x = v ∨ x ∈ l
  | [], x => by simp [insU]
  | a :: l, x => by
    simp only [insU]
    cases h1 : ltI v a with
    | true => simp
    | false =>
      cases h2 : intBeq v a with
      | true =>
        rw [intBeq_eq] at h2
        have : v = a := by simpa using h2
        subst this
        simp
      | false =>
        simp only [cond_false, List.mem_cons, insU_mem v l x]
        constructor
        · rintro (h | h | h) <;> simp [h]
        · rintro (h | h | h) <;> simp [h]
theorem insU_up (v : Int) : ∀ (l : List Int), l.Pairwise (fun x y => x ≤ y ∧ x ≠ y) → (insU v l).Pairwise (fun x y => x ≤ y ∧ x ≠ y)
  | [], _ => by simp [insU]
  | a :: l, h => by
    have h' := List.pairwise_cons.1 h
    simp only [insU]
    cases h1 : ltI v a with
    | true =>
      rw [ltI_eq] at h1
      simp only [decide_eq_true_eq] at h1
      refine List.pairwise_cons.2 ⟨fun x hx => ?_, h⟩
      rcases List.mem_cons.1 hx with rfl | hx
      · exact ⟨by omega, by omega⟩
      · have := (h'.1 x hx).1; exact ⟨by omega, by omega⟩
    | false =>
      rw [ltI_eq] at h1
      simp only [decide_eq_false_iff_not] at h1
      cases h2 : intBeq v a with
      | true => exact h
      | false =>
        rw [intBeq_eq] at h2
        have hne : v ≠ a := by simpa using h2
        simp only [cond_false]
        refine List.pairwise_cons.2 ⟨fun x hx => ?_, insU_up v l h'.2⟩
        rcases (insU_mem v l x).1 hx with rfl | hx
        · exact ⟨by omega, by omega⟩
        · exact h'.1 x hx
theorem sortU_up : ∀ l : List Int, (sortU l).Pairwise (fun x y => x ≤ y ∧ x ≠ y)
  | [] => List.Pairwise.nil
  | a :: l => insU_up a _ (sortU_up l)
theorem sortU_mem : ∀ (l : List Int) (x : Int), x ∈ sortU l ↔ x ∈ l
  | [], x => by simp [sortU]
  | a :: l, x => by simp only [sortU, insU_mem, sortU_mem l x, List.mem_cons]
end Go.Ev
