/- What Sort and Compact come to: the row that rises and has the same members. -/
import Derived.Lib.SlicesCompact
import Derived.Test.YtmnhhlkbpjemnaaDoorTF
import Derived.Sort.EncStr
import Derived.Test.YtmnhhlkbpjemnaaDoorTB
import Derived.Test.YtmnhhlkbpjemnaaDoorTD
set_option autoImplicit false
set_option linter.unusedVariables false
set_option linter.unusedSectionVars false
namespace Go.Ev
section
variable {α : Type} [Inhabited α] [DecidableEq α] {le : α → α → Prop}
theorem upTo_mem (d : Array α) (m : Nat) (x : α) : x ∈ Lib.compactUpTo d m ↔ ∃ j, j < m ∧ d[j]! = x := by
  simp only [Lib.compactUpTo, List.mem_map, List.mem_filter, List.mem_range]
  constructor
  · rintro ⟨j, ⟨h1, _⟩, h3⟩; exact ⟨j, h1, h3⟩
  · rintro ⟨j, h1, h3⟩
    induction j with
    | zero => exact ⟨0, ⟨h1, by simp [Lib.keeps]⟩, h3⟩
    | succ j ih =>
      by_cases h : d[j + 1]! = d[j]!
      · exact ih (by omega) (by rw [← h]; exact h3)
      · exact ⟨j + 1, ⟨h1, by simp [Lib.keeps, h]⟩, h3⟩
theorem upTo_strict (tr : ∀ a b c, le a b → le b c → le a c) (an : ∀ a b, le a b → le b a → a = b) (d : Array α) (hd : ∀ i j, i < j → j < d.size → le d[i]! d[j]!) (rf : ∀ a, le a a) :
    ∀ m, m ≤ d.size → (Lib.compactUpTo d m).Pairwise fun x y => le x y ∧ x ≠ y
  | 0, _ => by simp [Lib.compactUpTo]
  | m + 1, hm => by
    rw [Lib.compactUpTo_succ]
    have ih := upTo_strict tr an d hd rf m (by omega)
    by_cases hk : Lib.keeps d m
    · rw [if_pos hk, List.pairwise_append]
      refine ⟨ih, by simp, fun x hx y hy => ?_⟩
      obtain ⟨j, hj, rfl⟩ := (upTo_mem d m x).1 hx
      simp only [List.mem_singleton] at hy
      subst hy
      refine ⟨hd j m hj (by omega), fun e => ?_⟩
      simp only [Lib.keeps, decide_eq_true_eq] at hk
      rcases hk with h | h
      · omega
      · refine h (an _ _ ?_ (hd (m - 1) m (by omega) (by omega)))
        rw [← e]
        by_cases h' : j = m - 1
        · rw [h']; exact rf _
        · exact hd j (m - 1) (by omega) (by omega)
    · rw [if_neg hk, List.append_nil]; exact ih
theorem compact_sorted (rf : ∀ a, le a a) (tr : ∀ a b c, le a b → le b c → le a c) (an : ∀ a b, le a b → le b a → a = b) {zs : List α} (h : zs.Pairwise le) :
    (Lib.compact zs).Pairwise (fun x y => le x y ∧ x ≠ y) ∧ ∀ x, x ∈ Lib.compact zs ↔ x ∈ zs := by
  refine ⟨upTo_strict tr an _ (fun i j hij hj => ?_) rf _ (by simp), fun x => ?_⟩
  · have hj' : j < zs.length := by simpa using hj
    have := List.pairwise_iff_getElem.1 h i j (by omega) hj' hij
    simpa [getElem!_pos, hj', show i < zs.length by omega] using this
  · unfold Lib.compact
    rw [upTo_mem, List.mem_iff_getElem]
    constructor
    · rintro ⟨j, hj, e⟩; exact ⟨j, hj, by rw [← e]; simp [hj]⟩
    · rintro ⟨j, hj, e⟩; exact ⟨j, hj, by rw [← e]; simp [hj]⟩
theorem strict_eq (an : ∀ a b, le a b → le b a → a = b) : ∀ {l m : List α}, l.Pairwise (fun x y => le x y ∧ x ≠ y) → m.Pairwise (fun x y => le x y ∧ x ≠ y) → (∀ x, x ∈ l ↔ x ∈ m) → l = m
  | [], [], _, _, _ => rfl
  | [], b :: m, _, _, h => by have := (h b).2 (List.mem_cons_self ..); simp at this
  | a :: l, [], _, _, h => by have := (h a).1 (List.mem_cons_self ..); simp at this
  | a :: l, b :: m, hl, hm, h => by
    rw [List.pairwise_cons] at hl hm
    have e : a = b := by
      rcases List.mem_cons.1 ((h a).1 (List.mem_cons_self ..)) with e | e
      · exact e
      · rcases List.mem_cons.1 ((h b).2 (List.mem_cons_self ..)) with e2 | e2
        · exact e2.symm
        · exact an _ _ (hl.1 b e2).1 (hm.1 a e).1
    subst e
    rw [strict_eq an hl.2 hm.2 fun x => ?_]
    constructor
    · intro hx
      rcases List.mem_cons.1 ((h x).1 (List.mem_cons_of_mem _ hx)) with e | e
      · exact absurd e.symm (hl.1 x hx).2
      · exact e
    · intro hx
      rcases List.mem_cons.1 ((h x).2 (List.mem_cons_of_mem _ hx)) with e | e
      · exact absurd e.symm (hm.1 x hx).2
      · exact e
end
end Go.Ev
/- The program's Free: its loops. -/
set_option autoImplicit false
set_option maxRecDepth 100000
set_option linter.unusedSimpArgs false
set_option linter.unusedVariables false
set_option linter.unusedSectionVars false
namespace Go.Proofs.YtmnhhlkbpjemnaaDoor.Env
open Go.Ev Go.Ev.Nd

def toB (s : List Nat) : List UInt8 := s.map UInt8.ofNat
def ofB (b : List UInt8) : List Nat := b.map (·.toNat)
abbrev sortB (l : List (List UInt8)) : List (List UInt8) := l.mergeSort fun x y => decide (x ≤ y)
def sortS (L : List Str) : List Str := (Lib.compact (sortB (L.map fun t => toB t.s))).map fun b => ⟨ofB b⟩
def notB (B F : List Str) : List Str := F.filter fun x => !hasS B x.s
mutual
def freeT : Nd → List Str
  | .mk o p q n a ks => bif natsBeq o varS then [⟨p⟩] else sortS (freeTL o p q 0 ks)
def freeTL (o p q : List Nat) (i : Nat) : List Nd → List Str
  | [] => []
  | t :: l => notB (bindT o p q ↑i) (freeT t) ++ freeTL o p q (i + 1) l
end
theorem notB_len (B F : List Str) : (notB B F).length ≤ F.length := List.length_filter_le ..
theorem sortS_len (L : List Str) : (sortS L).length ≤ L.length := by
  have h1 := Lib.compact_length_le (sortB (L.map fun t => toB t.s))
  have h2 : (sortB (L.map fun t => toB t.s)).length = (L.map fun t => toB t.s).length := List.length_mergeSort _
  simp only [List.length_map] at h2
  simp only [sortS, List.length_map]
  omega
mutual
theorem freeT_len : ∀ t : Nd, (freeT t).length ≤ t.size
  | .mk o p q n a ks => by
    simp only [freeT, Nd.size]
    cases natsBeq o varS with
    | true => simp
    | false =>
      simp only [cond_false]
      have h1 := sortS_len (freeTL o p q 0 ks)
      have h2 := freeTL_len o p q 0 ks
      omega
theorem freeTL_len (o p q : List Nat) (i : Nat) : ∀ l : List Nd, (freeTL o p q i l).length ≤ sizes l
  | [] => Nat.le_refl _
  | t :: l => by
    simp only [freeTL, sizes, List.length_append]
    have h1 := notB_len (bindT o p q ↑i) (freeT t)
    have h2 := freeT_len t
    have h3 := freeTL_len o p q (i + 1) l
    omega
end
noncomputable def b15_0 : Code := loopOf Tryd.f15 0
noncomputable def b15_1 : Code := loopOf Tryd.f15 1
theorem lb15_0 : b15_0 = (.seq (codeAt Tryd.f15 [1, 1, 1, 0, 1, 0, 0, 0]) (.seq (codeAt Tryd.f15 [1, 1, 1, 0, 1, 0, 0, 1, 0]) (.seq (.block 1 (.seq (codeAt Tryd.f15 [1, 1, 1, 0, 1, 0, 0, 1, 1, 0, 0, 0]) (.seq (codeAt Tryd.f15 [1, 1, 1, 0, 1, 0, 0, 1, 1, 0, 0, 1, 0]) (.seq (codeAt Tryd.f15 [1, 1, 1, 0, 1, 0, 0, 1, 1, 0, 0, 1, 1, 0]) (.block 2 (.loop b15_1)))))) (codeAt Tryd.f15 [1, 1, 1, 0, 1, 0, 0, 1, 1, 1])))) := rfl
theorem loop15_1 {E : Env} (hty : E.ty = env.ty) (hpl : E.plan = env.plan) (h27 : E.prim 27 = some pHasS) {B F : List Str} (hF : F.length ≤ 1000000) (hB : B.length ≤ 9223372036854775807) :
    ∀ (l : List Str) (j : Nat) (w : Own) (out : List Str) {tm : Tm} {h : H} {x : Option (Ex × Tm × H)}, cdL E 15 47 (.loop b15_1) tm h = x → l = F.drop j → j ≤ F.length → out.length + l.length ≤ 1000000 → RowE 9 1 h w (strs out) →
    tm.get 3 = some (.sl w (strs out)) → tm.get 6 = some (.sl .no (strs B)) → tm.get 27 = some (.sl .no (strs F)) → tm.get 28 = some (.int .i64 ↑F.length) → tm.get 29 = some (.int .i64 ↑j) →
    ∃ tm' h' w', x = some (.exit 2, tm', h') ∧ tm'.get 3 = some (.sl w' (strs (out ++ notB B l))) ∧ RowE 9 1 h' w' (strs (out ++ notB B l)) ∧ (∀ k, k < 27 → k ≠ 3 → k ≠ 8 → tm'.get k = tm.get k) ∧ h.nx ≤ h'.nx ∧ (∀ j, j < h.nx → w ≠ .ch j → h'.t.get j = h.t.get j) ∧ (∀ j, w' = .ch j → w = .ch j ∨ h.nx ≤ j)
  | [], j, w, out, tm, h, x, hx, hd, hj, hlen, hr, g3, g6, g27, g28, g29 => by
    have hl := dnil hd hj
    obtain ⟨R, hR, hx⟩ := loop_step hx
    simp [b15_1, loopOf, Tryd.f15, loops, cdL_seq, cdL_region, cdL_drawn, cdL_cond, cdL_block, cdL_skip, cdL_label, cdL_exit, cdL_ret, endL, evSeq, evOne, evAct, evOp, opKind, evPure, evRead, evNew, evWrite, evSlice, natOf, optVal, readAt, AV.cells, wantedA, putTm, val, allVals, evBin, evInt, evStr, evAppend, evMin, denseFrom, sizesAre, onesIn, evPlan, recheck, AV.beq_refl, H.new, H.put, fillF, fillAt, allOne, AV.one, setArgs, evRes, resOf, ofVal, ofVal0, blt_dec, ble_dec, beq_dec, T.get_set_ite, T.get_e, isShift, ikBeq, ty_0, ty_1, ty_2, ty_3, ty_4, ty_5, ty_6, ty_7, ty_8, ty_9, ty_10, ty_11, ty_12, ty_13, ty_14, ty_15, ty_16, ty_17, ty_18, ty_19, ty_20, ty_21, ty_22, ty_23, ty_24, ty_25, ty_26, ty_27, ty_28, ty_29, ty_30, ty_31, ty_32, ty_33, ty_34, ty_35, ty_36, ty_37, ty_38, ty_39, ty_40, ty_41, ty_42, ty_43, ty_44, ty_45, ty_46, ty_47, ty_48, ty_49, ty_50, ty_51, ty_52, ty_53, ty_54, ty_55, ty_56, ty_57, ty_58, ty_59, ty_60, ty_61, ty_62, ty_63, ty_64, ty_65, ty_66, ty_67, ty_68, ty_69, ty_70, ty_71, ty_72, ty_73, ty_74, ty_75, ty_76, ty_77, ty_78, ty_79, ty_80, ty_81, ty_82, ty_83, ty_84, ty_85, ty_86, ty_87, ty_88, ty_89, ty_90, ty_91, ty_92, ty_93, ty_94, ty_95, ty_96, ty_97, ty_98, ty_99, ty_100, ty_101, ty_102, ty_103, ty_104, ty_105, ty_106, ty_107, ty_108, ty_109, ty_110, ty_111, ty_112, ty_113, ty_114, ty_115, ty_116, ty_117, ty_118, ty_119, ty_120, ty_121, ty_122, ty_123, ty_124, ty_125, ty_126, ty_127, ty_128, ty_129, pl_3_4, pl_4_3, pl_6_5, pl_9_1, pl_14_6, pl_18_6, pl_20_1, pl_29_6, pl_29_11, pl_30_3, pl_30_5, pl_30_9, pl_33_1, pl_33_10, pl_38_17, pl_46_4, pl_46_6, pl_47_10, pl_48_10, pl_50_3, pl_51_5, pl_51_11, pl_51_16, pl_51_17, pl_51_22, pl_51_23, pl_53_1, pl_53_3, pl_53_5, pl_53_8, pl_54_1, pl_54_3, pl_54_5, pl_54_8, pl_54_10, pl_54_13, pl_54_15, pl_54_18, pl_54_21, pl_60_3, pl_60_5, pl_60_6, pl_62_1, pl_62_2, pl_62_3, pl_69_1, pl_72_3, pl_88_9, pl_88_18, pl_89_9, lp, hty, hpl, g3, g6, g27, g28, g29, hl, ltI_f] at hx
    exact ⟨_, h, w, hx.symm, by simp [T.get_set_ite, g3, notB], by simpa [notB] using hr, fun k h1 h2 h3 => by simp only [T.get_set_ite]; repeat rw [if_neg (by omega)], Nat.le_refl _, fun _ _ _ => rfl, fun j e => .inl e⟩
  | v :: l, j, w, out, tm, h, x, hx, hd, hj, hlen, hr, g3, g6, g27, g28, g29 => by
    obtain ⟨hlt, hc, hd'⟩ := dcons hd
    have hic := strs_get hc
    have hlt' := ltI_t hlt
    have hw := wr_succ (i := j) (by omega)
    simp only [List.length_cons] at hlen
    have k1 := fun h => cHas (E := E) h27 .no B v.s hB h
    obtain ⟨R, hR, hx⟩ := loop_step hx
    cases h1 : hasS B v.s with
    | true =>
      have e : notB B (v :: l) = notB B l := by simp [notB, h1]
      simp [b15_1, loopOf, Tryd.f15, loops, cdL_seq, cdL_region, cdL_drawn, cdL_cond, cdL_block, cdL_skip, cdL_label, cdL_exit, cdL_ret, endL, evSeq, evOne, evAct, evOp, opKind, evPure, evRead, evNew, evWrite, evSlice, natOf, optVal, readAt, AV.cells, wantedA, putTm, val, allVals, evBin, evInt, evStr, evAppend, evMin, denseFrom, sizesAre, onesIn, evPlan, recheck, AV.beq_refl, H.new, H.put, fillF, fillAt, allOne, AV.one, setArgs, evRes, resOf, ofVal, ofVal0, blt_dec, ble_dec, beq_dec, T.get_set_ite, T.get_e, isShift, ikBeq, ty_0, ty_1, ty_2, ty_3, ty_4, ty_5, ty_6, ty_7, ty_8, ty_9, ty_10, ty_11, ty_12, ty_13, ty_14, ty_15, ty_16, ty_17, ty_18, ty_19, ty_20, ty_21, ty_22, ty_23, ty_24, ty_25, ty_26, ty_27, ty_28, ty_29, ty_30, ty_31, ty_32, ty_33, ty_34, ty_35, ty_36, ty_37, ty_38, ty_39, ty_40, ty_41, ty_42, ty_43, ty_44, ty_45, ty_46, ty_47, ty_48, ty_49, ty_50, ty_51, ty_52, ty_53, ty_54, ty_55, ty_56, ty_57, ty_58, ty_59, ty_60, ty_61, ty_62, ty_63, ty_64, ty_65, ty_66, ty_67, ty_68, ty_69, ty_70, ty_71, ty_72, ty_73, ty_74, ty_75, ty_76, ty_77, ty_78, ty_79, ty_80, ty_81, ty_82, ty_83, ty_84, ty_85, ty_86, ty_87, ty_88, ty_89, ty_90, ty_91, ty_92, ty_93, ty_94, ty_95, ty_96, ty_97, ty_98, ty_99, ty_100, ty_101, ty_102, ty_103, ty_104, ty_105, ty_106, ty_107, ty_108, ty_109, ty_110, ty_111, ty_112, ty_113, ty_114, ty_115, ty_116, ty_117, ty_118, ty_119, ty_120, ty_121, ty_122, ty_123, ty_124, ty_125, ty_126, ty_127, ty_128, ty_129, pl_3_4, pl_4_3, pl_6_5, pl_9_1, pl_14_6, pl_18_6, pl_20_1, pl_29_6, pl_29_11, pl_30_3, pl_30_5, pl_30_9, pl_33_1, pl_33_10, pl_38_17, pl_46_4, pl_46_6, pl_47_10, pl_48_10, pl_50_3, pl_51_5, pl_51_11, pl_51_16, pl_51_17, pl_51_22, pl_51_23, pl_53_1, pl_53_3, pl_53_5, pl_53_8, pl_54_1, pl_54_3, pl_54_5, pl_54_8, pl_54_10, pl_54_13, pl_54_15, pl_54_18, pl_54_21, pl_60_3, pl_60_5, pl_60_6, pl_62_1, pl_62_2, pl_62_3, pl_69_1, pl_72_3, pl_88_9, pl_88_18, pl_89_9, lp, hty, hpl, g3, g6, g27, g28, g29, hlt', hic, k1, h1, hw] at hx
      rw [hR] at hx
      rw [e]
      obtain ⟨tm', h', w', q1, q2, q3, q4, q5⟩ := loop15_1 hty hpl h27 (B := B) hF hB l (j + 1) w out hx hd' hlt (by omega) hr (by simp [T.get_set_ite, g3]) (by simp [T.get_set_ite, g6]) (by simp [T.get_set_ite, g27]) (by simp [T.get_set_ite, g28]) (by simp [T.get_set_ite])
      refine ⟨tm', h', w', q1, q2, q3, fun k k1 k2 k3 => ?_, q5⟩
      rw [q4 k k1 k2 k3]
      simp only [T.get_set_ite]
      repeat rw [if_neg (by omega)]
    | false =>
      have e : notB B (v :: l) = v :: notB B l := by simp [notB, h1]
      have so := strs_len out
      obtain ⟨w2, h2, e2, r2, n2, f2⟩ := app_any (e := 9) (sz := 1) (byt := 16) (xs := strs out) (ys := strs [v]) (by omega) (by omega) (strs_sizes out) (strs_sizes [v]) (strs_ones [v]) (by rw [so, strs_len]; simp; omega) hr
      rw [strs_append] at e2 r2
      have zv : strs [v] = [.str v.s] := rfl
      rw [zv] at e2
      have hw2 : ∀ j, w2 = .ch j → w = .ch j ∨ h.nx ≤ j := fun j ej => own_app hr e2 j ej
      simp [b15_1, loopOf, Tryd.f15, loops, cdL_seq, cdL_region, cdL_drawn, cdL_cond, cdL_block, cdL_skip, cdL_label, cdL_exit, cdL_ret, endL, evSeq, evOne, evAct, evOp, opKind, evPure, evRead, evNew, evWrite, evSlice, natOf, optVal, readAt, AV.cells, wantedA, putTm, val, allVals, evBin, evInt, evStr, evAppend, evMin, denseFrom, sizesAre, onesIn, evPlan, recheck, AV.beq_refl, H.new, H.put, fillF, fillAt, allOne, AV.one, setArgs, evRes, resOf, ofVal, ofVal0, blt_dec, ble_dec, beq_dec, T.get_set_ite, T.get_e, isShift, ikBeq, ty_0, ty_1, ty_2, ty_3, ty_4, ty_5, ty_6, ty_7, ty_8, ty_9, ty_10, ty_11, ty_12, ty_13, ty_14, ty_15, ty_16, ty_17, ty_18, ty_19, ty_20, ty_21, ty_22, ty_23, ty_24, ty_25, ty_26, ty_27, ty_28, ty_29, ty_30, ty_31, ty_32, ty_33, ty_34, ty_35, ty_36, ty_37, ty_38, ty_39, ty_40, ty_41, ty_42, ty_43, ty_44, ty_45, ty_46, ty_47, ty_48, ty_49, ty_50, ty_51, ty_52, ty_53, ty_54, ty_55, ty_56, ty_57, ty_58, ty_59, ty_60, ty_61, ty_62, ty_63, ty_64, ty_65, ty_66, ty_67, ty_68, ty_69, ty_70, ty_71, ty_72, ty_73, ty_74, ty_75, ty_76, ty_77, ty_78, ty_79, ty_80, ty_81, ty_82, ty_83, ty_84, ty_85, ty_86, ty_87, ty_88, ty_89, ty_90, ty_91, ty_92, ty_93, ty_94, ty_95, ty_96, ty_97, ty_98, ty_99, ty_100, ty_101, ty_102, ty_103, ty_104, ty_105, ty_106, ty_107, ty_108, ty_109, ty_110, ty_111, ty_112, ty_113, ty_114, ty_115, ty_116, ty_117, ty_118, ty_119, ty_120, ty_121, ty_122, ty_123, ty_124, ty_125, ty_126, ty_127, ty_128, ty_129, pl_3_4, pl_4_3, pl_6_5, pl_9_1, pl_14_6, pl_18_6, pl_20_1, pl_29_6, pl_29_11, pl_30_3, pl_30_5, pl_30_9, pl_33_1, pl_33_10, pl_38_17, pl_46_4, pl_46_6, pl_47_10, pl_48_10, pl_50_3, pl_51_5, pl_51_11, pl_51_16, pl_51_17, pl_51_22, pl_51_23, pl_53_1, pl_53_3, pl_53_5, pl_53_8, pl_54_1, pl_54_3, pl_54_5, pl_54_8, pl_54_10, pl_54_13, pl_54_15, pl_54_18, pl_54_21, pl_60_3, pl_60_5, pl_60_6, pl_62_1, pl_62_2, pl_62_3, pl_69_1, pl_72_3, pl_88_9, pl_88_18, pl_89_9, lp, hty, hpl, g3, g6, g27, g28, g29, hlt', hic, k1, h1, hw, e2, -evAppend] at hx
      rw [hR] at hx
      obtain ⟨tm', h', w', q1, q2, q3, q4, q5, q6, q7⟩ := loop15_1 hty hpl h27 (B := B) hF hB l (j + 1) w2 (out ++ [v]) hx hd' hlt (by simp; omega) r2 (by simp [T.get_set_ite]) (by simp [T.get_set_ite, g6]) (by simp [T.get_set_ite, g27]) (by simp [T.get_set_ite, g28]) (by simp [T.get_set_ite])
      rw [e]
      refine ⟨tm', h', w', q1, by simpa using q2, by simpa using q3, fun k k1 k2 k3 => ?_, by omega, fun j hj hne => ?_, fun j ej => ?_⟩
      · rw [q4 k k1 k2 k3]
        simp only [T.get_set_ite]
        repeat rw [if_neg (by omega)]
      · rw [q6 j (by omega) (fun ew => by
          rcases hw2 j ew with h1 | h1
          · exact hne h1
          · omega), f2 j hj hne]
      · rcases q7 j ej with h1 | h1
        · exact hw2 j h1
        · exact .inr (by omega)
end Go.Proofs.YtmnhhlkbpjemnaaDoor.Env
/- The program's Free: to the sort. -/
set_option autoImplicit false
set_option maxRecDepth 100000
set_option linter.unusedSimpArgs false
set_option linter.unusedVariables false
set_option linter.unusedSectionVars false
namespace Go.Proofs.YtmnhhlkbpjemnaaDoor.Env
open Go.Ev Go.Ev.Nd

theorem loop15_0 {E : Env} (hty : E.ty = env.ty) (hpl : E.plan = env.plan) (h26 : E.prim 26 = some pBindT) (h27 : E.prim 27 = some pHasS) {t : Nd} {d : Nat} (hkl : t.kids.length ≤ 9223372036854775806) (hf : fits t.kids) (hd : deps t.kids ≤ d) (hsz : sizes t.kids ≤ 1000000)
    (hc : ∀ t h, dep t ≤ d → fit t → t.size ≤ 1000000 → evL E 15 [t.av] h = some (.sl .no (strs (freeT t)), h)) :
    ∀ (l : List Nd) (i : Nat) (w : Own) (out : List Str) {tm : Tm} {h : H} {x : Option (Ex × Tm × H)}, cdL E 15 47 (.loop b15_0) tm h = x → l = t.kids.drop i → i ≤ t.kids.length → out.length + sizes l ≤ 1000000 → RowE 9 1 h w (strs out) → h.t.get 0 = some (.cells t.av.cells) → 0 < h.nx →
    tm.get 1 = some (.ptr (some (0, 0))) → tm.get 3 = some (.sl w (strs out)) → tm.get 16 = some (.sl .no (avs t.kids)) → tm.get 17 = some (.int .i64 ↑t.kids.length) → tm.get 18 = some (.int .i64 ↑i) →
    ∃ tm' h' w', x = some (.exit 0, tm', h') ∧ tm'.get 3 = some (.sl w' (strs (out ++ freeTL t.op t.name t.arg i l))) ∧ RowE 9 1 h' w' (strs (out ++ freeTL t.op t.name t.arg i l))
  | [], i, w, out, tm, h, x, hx, hdr, hi, hlen, hr, hz, hn0, g1, g3, g16, g17, g18 => by
    have hl := dnil hdr hi
    obtain ⟨R, hR, hx⟩ := loop_step hx
    rw [lb15_0] at hx
    simp only [codeAt, sub, Tryd.f15] at hx
    simp [cdL_seq, cdL_region, cdL_drawn, cdL_cond, cdL_block, cdL_skip, cdL_label, cdL_exit, cdL_ret, endL, evSeq, evOne, evAct, evOp, opKind, evPure, evRead, evNew, evWrite, evSlice, natOf, optVal, readAt, AV.cells, wantedA, putTm, val, allVals, evBin, evInt, evStr, evAppend, evMin, denseFrom, sizesAre, onesIn, evPlan, recheck, AV.beq_refl, H.new, H.put, fillF, fillAt, allOne, AV.one, setArgs, evRes, resOf, ofVal, ofVal0, blt_dec, ble_dec, beq_dec, T.get_set_ite, T.get_e, isShift, ikBeq, ty_0, ty_1, ty_2, ty_3, ty_4, ty_5, ty_6, ty_7, ty_8, ty_9, ty_10, ty_11, ty_12, ty_13, ty_14, ty_15, ty_16, ty_17, ty_18, ty_19, ty_20, ty_21, ty_22, ty_23, ty_24, ty_25, ty_26, ty_27, ty_28, ty_29, ty_30, ty_31, ty_32, ty_33, ty_34, ty_35, ty_36, ty_37, ty_38, ty_39, ty_40, ty_41, ty_42, ty_43, ty_44, ty_45, ty_46, ty_47, ty_48, ty_49, ty_50, ty_51, ty_52, ty_53, ty_54, ty_55, ty_56, ty_57, ty_58, ty_59, ty_60, ty_61, ty_62, ty_63, ty_64, ty_65, ty_66, ty_67, ty_68, ty_69, ty_70, ty_71, ty_72, ty_73, ty_74, ty_75, ty_76, ty_77, ty_78, ty_79, ty_80, ty_81, ty_82, ty_83, ty_84, ty_85, ty_86, ty_87, ty_88, ty_89, ty_90, ty_91, ty_92, ty_93, ty_94, ty_95, ty_96, ty_97, ty_98, ty_99, ty_100, ty_101, ty_102, ty_103, ty_104, ty_105, ty_106, ty_107, ty_108, ty_109, ty_110, ty_111, ty_112, ty_113, ty_114, ty_115, ty_116, ty_117, ty_118, ty_119, ty_120, ty_121, ty_122, ty_123, ty_124, ty_125, ty_126, ty_127, ty_128, ty_129, pl_3_4, pl_4_3, pl_6_5, pl_9_1, pl_14_6, pl_18_6, pl_20_1, pl_29_6, pl_29_11, pl_30_3, pl_30_5, pl_30_9, pl_33_1, pl_33_10, pl_38_17, pl_46_4, pl_46_6, pl_47_10, pl_48_10, pl_50_3, pl_51_5, pl_51_11, pl_51_16, pl_51_17, pl_51_22, pl_51_23, pl_53_1, pl_53_3, pl_53_5, pl_53_8, pl_54_1, pl_54_3, pl_54_5, pl_54_8, pl_54_10, pl_54_13, pl_54_15, pl_54_18, pl_54_21, pl_60_3, pl_60_5, pl_60_6, pl_62_1, pl_62_2, pl_62_3, pl_69_1, pl_72_3, pl_88_9, pl_88_18, pl_89_9, lp, hty, hpl, g1, g3, g16, g17, g18, hl, ltI_f] at hx
    exact ⟨_, h, w, hx.symm, by simp [T.get_set_ite, g3, freeTL], by simpa [freeTL] using hr⟩
  | k :: l, i, w, out, tm, h, x, hx, hdr, hi, hlen, hr, hz, hn0, g1, g3, g16, g17, g18 => by
    obtain ⟨hlt, hct, hd'⟩ := dcons hdr
    have hat := avs_get hct
    have htm := List.mem_of_getElem? hct
    have hlt' := ltI_t hlt
    have hw := wr_succ (i := i) (by omega)
    simp only [sizes] at hlen
    have hks := size_mem htm
    have kF := fun h => hc k h (Nat.le_trans (dep_mem htm) hd) (fits_mem.1 hf k htm) (by omega)
    have kB := fun h => cBindT (E := E) h26 t ↑i h
    have hFl := freeT_len k
    have hBl := bindT_len t.op t.name t.arg ↑i
    have hfl := strs_len (freeT k)
    obtain ⟨a0, a1, a2, a3, a4, a5, ha⟩ := nd_cells k
    have hta := t.cells_
    rw [ha] at hat kF
    have hz' := hz
    rw [hta] at hz kB
    simp only [AV.cells] at hz
    rw [show bindTN t ↑i = bindT t.op t.name t.arg ↑i from rfl] at kB
    obtain ⟨R, hR, hx⟩ := loop_step hx
    rw [lb15_0] at hx
    simp only [codeAt, sub, Tryd.f15] at hx
    have hn1 : ¬ (0 = h.nx) := by omega
    have hn2 : ¬ (h.nx = 0) := by omega
    simp [cdL_seq, cdL_region, cdL_drawn, cdL_cond, cdL_block, cdL_skip, cdL_label, cdL_exit, cdL_ret, endL, evSeq, evOne, evAct, evOp, opKind, evPure, evRead, evNew, evWrite, evSlice, natOf, optVal, readAt, AV.cells, wantedA, putTm, val, allVals, evBin, evInt, evStr, evAppend, evMin, denseFrom, sizesAre, onesIn, evPlan, recheck, AV.beq_refl, H.new, H.put, fillF, fillAt, allOne, AV.one, setArgs, evRes, resOf, ofVal, ofVal0, blt_dec, ble_dec, beq_dec, T.get_set_ite, T.get_e, isShift, ikBeq, ty_0, ty_1, ty_2, ty_3, ty_4, ty_5, ty_6, ty_7, ty_8, ty_9, ty_10, ty_11, ty_12, ty_13, ty_14, ty_15, ty_16, ty_17, ty_18, ty_19, ty_20, ty_21, ty_22, ty_23, ty_24, ty_25, ty_26, ty_27, ty_28, ty_29, ty_30, ty_31, ty_32, ty_33, ty_34, ty_35, ty_36, ty_37, ty_38, ty_39, ty_40, ty_41, ty_42, ty_43, ty_44, ty_45, ty_46, ty_47, ty_48, ty_49, ty_50, ty_51, ty_52, ty_53, ty_54, ty_55, ty_56, ty_57, ty_58, ty_59, ty_60, ty_61, ty_62, ty_63, ty_64, ty_65, ty_66, ty_67, ty_68, ty_69, ty_70, ty_71, ty_72, ty_73, ty_74, ty_75, ty_76, ty_77, ty_78, ty_79, ty_80, ty_81, ty_82, ty_83, ty_84, ty_85, ty_86, ty_87, ty_88, ty_89, ty_90, ty_91, ty_92, ty_93, ty_94, ty_95, ty_96, ty_97, ty_98, ty_99, ty_100, ty_101, ty_102, ty_103, ty_104, ty_105, ty_106, ty_107, ty_108, ty_109, ty_110, ty_111, ty_112, ty_113, ty_114, ty_115, ty_116, ty_117, ty_118, ty_119, ty_120, ty_121, ty_122, ty_123, ty_124, ty_125, ty_126, ty_127, ty_128, ty_129, pl_3_4, pl_4_3, pl_6_5, pl_9_1, pl_14_6, pl_18_6, pl_20_1, pl_29_6, pl_29_11, pl_30_3, pl_30_5, pl_30_9, pl_33_1, pl_33_10, pl_38_17, pl_46_4, pl_46_6, pl_47_10, pl_48_10, pl_50_3, pl_51_5, pl_51_11, pl_51_16, pl_51_17, pl_51_22, pl_51_23, pl_53_1, pl_53_3, pl_53_5, pl_53_8, pl_54_1, pl_54_3, pl_54_5, pl_54_8, pl_54_10, pl_54_13, pl_54_15, pl_54_18, pl_54_21, pl_60_3, pl_60_5, pl_60_6, pl_62_1, pl_62_2, pl_62_3, pl_69_1, pl_72_3, pl_88_9, pl_88_18, pl_89_9, lp, hty, hpl, g1, g3, g16, g17, g18, hlt', hat, hz, hn1, hn2, kF, kB, hfl] at hx
    generalize hy : cdL E 15 47 (.loop b15_1) _ _ = y at hx
    have hrN : ∀ (h2 : H), h2.nx = h.nx + 1 → (∀ j, j < h.nx → h2.t.get j = h.t.get j) → RowE 9 1 h2 w (strs out) := fun h2 q1 q2 => hr.mono (by omega) q2
    have hw0 : w ≠ .ch 0 := hr.ne hz'
    obtain ⟨tm2, h2, w2, rfl, q3, q4, q5, q6, q7, q8⟩ := loop15_1 hty hpl h27 (B := bindT t.op t.name t.arg ↑i) (F := freeT k) (by omega) (by omega) (freeT k) 0 w out hy rfl (Nat.zero_le _) (by omega) (hrN _ (by simp) fun j hj => by simp only [T.get_set_ite]; repeat rw [if_neg (by omega)]) (by simp [T.get_set_ite, g3]) (by simp [T.get_set_ite]) (by simp [T.get_set_ite]) (by simp [T.get_set_ite]) (by simp [T.get_set_ite])
    have p1 := q5 1 (by omega) (by omega) (by omega)
    have p16 := q5 16 (by omega) (by omega) (by omega)
    have p17 := q5 17 (by omega) (by omega) (by omega)
    have p18 := q5 18 (by omega) (by omega) (by omega)
    simp [T.get_set_ite, g1, g16, g17, g18] at p1 p16 p17 p18
    simp only at q6 q7
    have hz2 : h2.t.get 0 = some (.cells t.av.cells) := by
      rw [q7 0 (by omega) hw0, ← hz']
      simp only [T.get_set_ite]
      repeat rw [if_neg (by omega)]
    simp [cdL_seq, cdL_region, cdL_drawn, cdL_cond, cdL_block, cdL_skip, cdL_label, cdL_exit, cdL_ret, endL, evSeq, evOne, evAct, evOp, opKind, evPure, evRead, evNew, evWrite, evSlice, natOf, optVal, readAt, AV.cells, wantedA, putTm, val, allVals, evBin, evInt, evStr, evAppend, evMin, denseFrom, sizesAre, onesIn, evPlan, recheck, AV.beq_refl, H.new, H.put, fillF, fillAt, allOne, AV.one, setArgs, evRes, resOf, ofVal, ofVal0, blt_dec, ble_dec, beq_dec, T.get_set_ite, T.get_e, isShift, ikBeq, ty_0, ty_1, ty_2, ty_3, ty_4, ty_5, ty_6, ty_7, ty_8, ty_9, ty_10, ty_11, ty_12, ty_13, ty_14, ty_15, ty_16, ty_17, ty_18, ty_19, ty_20, ty_21, ty_22, ty_23, ty_24, ty_25, ty_26, ty_27, ty_28, ty_29, ty_30, ty_31, ty_32, ty_33, ty_34, ty_35, ty_36, ty_37, ty_38, ty_39, ty_40, ty_41, ty_42, ty_43, ty_44, ty_45, ty_46, ty_47, ty_48, ty_49, ty_50, ty_51, ty_52, ty_53, ty_54, ty_55, ty_56, ty_57, ty_58, ty_59, ty_60, ty_61, ty_62, ty_63, ty_64, ty_65, ty_66, ty_67, ty_68, ty_69, ty_70, ty_71, ty_72, ty_73, ty_74, ty_75, ty_76, ty_77, ty_78, ty_79, ty_80, ty_81, ty_82, ty_83, ty_84, ty_85, ty_86, ty_87, ty_88, ty_89, ty_90, ty_91, ty_92, ty_93, ty_94, ty_95, ty_96, ty_97, ty_98, ty_99, ty_100, ty_101, ty_102, ty_103, ty_104, ty_105, ty_106, ty_107, ty_108, ty_109, ty_110, ty_111, ty_112, ty_113, ty_114, ty_115, ty_116, ty_117, ty_118, ty_119, ty_120, ty_121, ty_122, ty_123, ty_124, ty_125, ty_126, ty_127, ty_128, ty_129, pl_3_4, pl_4_3, pl_6_5, pl_9_1, pl_14_6, pl_18_6, pl_20_1, pl_29_6, pl_29_11, pl_30_3, pl_30_5, pl_30_9, pl_33_1, pl_33_10, pl_38_17, pl_46_4, pl_46_6, pl_47_10, pl_48_10, pl_50_3, pl_51_5, pl_51_11, pl_51_16, pl_51_17, pl_51_22, pl_51_23, pl_53_1, pl_53_3, pl_53_5, pl_53_8, pl_54_1, pl_54_3, pl_54_5, pl_54_8, pl_54_10, pl_54_13, pl_54_15, pl_54_18, pl_54_21, pl_60_3, pl_60_5, pl_60_6, pl_62_1, pl_62_2, pl_62_3, pl_69_1, pl_72_3, pl_88_9, pl_88_18, pl_89_9, lp, hty, hpl, q3, p1, p16, p17, p18, hw] at hx
    rw [hR] at hx
    have hol := notB_len (bindT t.op t.name t.arg ↑i) (freeT k)
    obtain ⟨tm', h', w', e1, e2, e3⟩ := loop15_0 hty hpl h26 h27 hkl hf hd hsz hc l (i + 1) w2 (out ++ notB (bindT t.op t.name t.arg ↑i) (freeT k)) hx hd' hlt (by simp; omega) q4 hz2 (by omega) (by simp [T.get_set_ite, p1]) (by simp [T.get_set_ite, q3]) (by simp [T.get_set_ite, p16]) (by simp [T.get_set_ite, p17]) (by simp [T.get_set_ite])
    exact ⟨tm', h', w', e1, by simpa [freeTL] using e2, by simpa [freeTL] using e3⟩
theorem bodyT15 : Tryd.f15.body = some (.seq (codeAt Tryd.f15 [0]) (.seq (codeAt Tryd.f15 [1, 0]) (.seq (codeAt Tryd.f15 [1, 1, 0]) (.seq (.seq (codeAt Tryd.f15 [1, 1, 1, 0, 0]) (.block 0 (.loop b15_0))) (codeAt Tryd.f15 [1, 1, 1, 1]))))) := rfl
noncomputable def pre15 : Code := .seq (codeAt Tryd.f15 [0]) (.seq (codeAt Tryd.f15 [1, 0]) (.seq (codeAt Tryd.f15 [1, 1, 0]) (.seq (codeAt Tryd.f15 [1, 1, 1, 0, 0]) (.block 0 (.loop b15_0)))))
theorem pre15_run {E : Env} (hty : E.ty = env.ty) (hpl : E.plan = env.plan) (h26 : E.prim 26 = some pBindT) (h27 : E.prim 27 = some pHasS) {t : Nd} {d : Nat} (hv : natsBeq t.op varS = false) (hf : fit t) (hd : deps t.kids ≤ d) (hsz : t.size ≤ 1000000) (hkl : t.kids.length ≤ 9223372036854775806)
    (hc : ∀ t h, dep t ≤ d → fit t → t.size ≤ 1000000 → evL E 15 [t.av] h = some (.sl .no (strs (freeT t)), h)) :
    ∃ tm h' w', cdL E 15 47 pre15 (setArgs 0 [t.av] .e) ⟨.e, 0⟩ = some (.normal, tm, h') ∧ tm.get 3 = some (.sl w' (strs (freeTL t.op t.name t.arg 0 t.kids))) ∧ RowE 9 1 h' w' (strs (freeTL t.op t.name t.arg 0 t.kids)) := by
  have hta := t.cells_
  have hkn := avs_len t.kids
  have hv' : natsBeq t.op [118, 97, 114] = false := hv
  rw [size_eq] at hsz
  have hfit := (fit_iff t).1 hf
  have hL := fun (x : Option (Ex × Tm × H)) tm h => loop15_0 hty hpl h26 h27 (t := t) (d := d) hkl hfit.2.2.2.2.2.2 hd (by omega) hc t.kids 0 .full [] (x := x) (tm := tm) (h := h)
  rw [hta] at hL ⊢
  simp only [AV.cells] at hL
  unfold pre15
  simp only [codeAt, sub, Tryd.f15]
  simp [cdL_seq, cdL_region, cdL_drawn, cdL_cond, cdL_block, cdL_skip, cdL_label, cdL_exit, cdL_ret, endL, evSeq, evOne, evAct, evOp, opKind, evPure, evRead, evNew, evWrite, evSlice, natOf, optVal, readAt, AV.cells, wantedA, putTm, val, allVals, evBin, evInt, evStr, evAppend, evMin, denseFrom, sizesAre, onesIn, evPlan, recheck, AV.beq_refl, H.new, H.put, fillF, fillAt, allOne, AV.one, setArgs, evRes, resOf, ofVal, ofVal0, blt_dec, ble_dec, beq_dec, T.get_set_ite, T.get_e, isShift, ikBeq, ty_0, ty_1, ty_2, ty_3, ty_4, ty_5, ty_6, ty_7, ty_8, ty_9, ty_10, ty_11, ty_12, ty_13, ty_14, ty_15, ty_16, ty_17, ty_18, ty_19, ty_20, ty_21, ty_22, ty_23, ty_24, ty_25, ty_26, ty_27, ty_28, ty_29, ty_30, ty_31, ty_32, ty_33, ty_34, ty_35, ty_36, ty_37, ty_38, ty_39, ty_40, ty_41, ty_42, ty_43, ty_44, ty_45, ty_46, ty_47, ty_48, ty_49, ty_50, ty_51, ty_52, ty_53, ty_54, ty_55, ty_56, ty_57, ty_58, ty_59, ty_60, ty_61, ty_62, ty_63, ty_64, ty_65, ty_66, ty_67, ty_68, ty_69, ty_70, ty_71, ty_72, ty_73, ty_74, ty_75, ty_76, ty_77, ty_78, ty_79, ty_80, ty_81, ty_82, ty_83, ty_84, ty_85, ty_86, ty_87, ty_88, ty_89, ty_90, ty_91, ty_92, ty_93, ty_94, ty_95, ty_96, ty_97, ty_98, ty_99, ty_100, ty_101, ty_102, ty_103, ty_104, ty_105, ty_106, ty_107, ty_108, ty_109, ty_110, ty_111, ty_112, ty_113, ty_114, ty_115, ty_116, ty_117, ty_118, ty_119, ty_120, ty_121, ty_122, ty_123, ty_124, ty_125, ty_126, ty_127, ty_128, ty_129, pl_3_4, pl_4_3, pl_6_5, pl_9_1, pl_14_6, pl_18_6, pl_20_1, pl_29_6, pl_29_11, pl_30_3, pl_30_5, pl_30_9, pl_33_1, pl_33_10, pl_38_17, pl_46_4, pl_46_6, pl_47_10, pl_48_10, pl_50_3, pl_51_5, pl_51_11, pl_51_16, pl_51_17, pl_51_22, pl_51_23, pl_53_1, pl_53_3, pl_53_5, pl_53_8, pl_54_1, pl_54_3, pl_54_5, pl_54_8, pl_54_10, pl_54_13, pl_54_15, pl_54_18, pl_54_21, pl_60_3, pl_60_5, pl_60_6, pl_62_1, pl_62_2, pl_62_3, pl_69_1, pl_72_3, pl_88_9, pl_88_18, pl_89_9, hty, hpl, hkn, bytesOf, hv']
  generalize hx : cdL E 15 47 (.loop b15_0) _ _ = x
  obtain ⟨tm', h', w', rfl, q3, q4⟩ := hL x _ _ hx rfl (Nat.zero_le _) (by simp; omega) (.inl ⟨rfl, rfl⟩) (by simp [T.get_set_ite]) (by simp) (by simp [T.get_set_ite]) (by simp [T.get_set_ite, strs]) (by simp [T.get_set_ite]) (by simp [T.get_set_ite]) (by simp [T.get_set_ite])
  exact ⟨tm', h', rfl, w', by simpa using q3, by simpa using q4⟩
theorem var15_run {E : Env} (hty : E.ty = env.ty) (hpl : E.plan = env.plan) {t : Nd} (hv : natsBeq t.op varS = true) : ∃ h1, bodyL E 15 Tryd.f15 (.seq (codeAt Tryd.f15 [0]) (.seq (codeAt Tryd.f15 [1, 0]) (.seq (codeAt Tryd.f15 [1, 1, 0]) (.seq (.seq (codeAt Tryd.f15 [1, 1, 1, 0, 0]) (.block 0 (.loop b15_0))) (codeAt Tryd.f15 [1, 1, 1, 1]))))) [t.av] ⟨.e, 0⟩ = some (.sl .full (strs [⟨t.name⟩]), h1) := by
  have hta := t.cells_
  have hv' : natsBeq t.op [118, 97, 114] = true := hv
  rw [hta]
  unfold bodyL
  simp only [codeAt, sub, Tryd.f15]
  simp [cdL_seq, cdL_region, cdL_drawn, cdL_cond, cdL_block, cdL_skip, cdL_label, cdL_exit, cdL_ret, endL, evSeq, evOne, evAct, evOp, opKind, evPure, evRead, evNew, evWrite, evSlice, natOf, optVal, readAt, AV.cells, wantedA, putTm, val, allVals, evBin, evInt, evStr, evAppend, evMin, denseFrom, sizesAre, onesIn, evPlan, recheck, AV.beq_refl, H.new, H.put, fillF, fillAt, allOne, AV.one, setArgs, evRes, resOf, ofVal, ofVal0, blt_dec, ble_dec, beq_dec, T.get_set_ite, T.get_e, isShift, ikBeq, ty_0, ty_1, ty_2, ty_3, ty_4, ty_5, ty_6, ty_7, ty_8, ty_9, ty_10, ty_11, ty_12, ty_13, ty_14, ty_15, ty_16, ty_17, ty_18, ty_19, ty_20, ty_21, ty_22, ty_23, ty_24, ty_25, ty_26, ty_27, ty_28, ty_29, ty_30, ty_31, ty_32, ty_33, ty_34, ty_35, ty_36, ty_37, ty_38, ty_39, ty_40, ty_41, ty_42, ty_43, ty_44, ty_45, ty_46, ty_47, ty_48, ty_49, ty_50, ty_51, ty_52, ty_53, ty_54, ty_55, ty_56, ty_57, ty_58, ty_59, ty_60, ty_61, ty_62, ty_63, ty_64, ty_65, ty_66, ty_67, ty_68, ty_69, ty_70, ty_71, ty_72, ty_73, ty_74, ty_75, ty_76, ty_77, ty_78, ty_79, ty_80, ty_81, ty_82, ty_83, ty_84, ty_85, ty_86, ty_87, ty_88, ty_89, ty_90, ty_91, ty_92, ty_93, ty_94, ty_95, ty_96, ty_97, ty_98, ty_99, ty_100, ty_101, ty_102, ty_103, ty_104, ty_105, ty_106, ty_107, ty_108, ty_109, ty_110, ty_111, ty_112, ty_113, ty_114, ty_115, ty_116, ty_117, ty_118, ty_119, ty_120, ty_121, ty_122, ty_123, ty_124, ty_125, ty_126, ty_127, ty_128, ty_129, pl_3_4, pl_4_3, pl_6_5, pl_9_1, pl_14_6, pl_18_6, pl_20_1, pl_29_6, pl_29_11, pl_30_3, pl_30_5, pl_30_9, pl_33_1, pl_33_10, pl_38_17, pl_46_4, pl_46_6, pl_47_10, pl_48_10, pl_50_3, pl_51_5, pl_51_11, pl_51_16, pl_51_17, pl_51_22, pl_51_23, pl_53_1, pl_53_3, pl_53_5, pl_53_8, pl_54_1, pl_54_3, pl_54_5, pl_54_8, pl_54_10, pl_54_13, pl_54_15, pl_54_18, pl_54_21, pl_60_3, pl_60_5, pl_60_6, pl_62_1, pl_62_2, pl_62_3, pl_69_1, pl_72_3, pl_88_9, pl_88_18, pl_89_9, hty, hpl, bytesOf, hv', strs]
end Go.Proofs.YtmnhhlkbpjemnaaDoor.Env
/- The program's Free as a primitive. -/
set_option autoImplicit false
set_option maxRecDepth 100000
set_option linter.unusedSimpArgs false
set_option linter.unusedVariables false
set_option linter.unusedSectionVars false
namespace Go.Proofs.YtmnhhlkbpjemnaaDoor.Env
open Go.Ev Go.Ev.Nd

theorem sortC28 : SortC Tryd.prog Go.Proofs.encStr sortB 28 where
  fn := ⟨_, Tryd.func28, by kernel_rfl, by kernel_rfl⟩
  len := fun zs => List.length_mergeSort zs
  nil := by simp [sortB]
  row := fun g cap zs w hH hg hl => calls_of_every_depth fun D => AnyS.slices_Sort_string_alone Tryd.lays190 D g 0 cap zs w hH hg hl
  none := fun p cap w => calls_of_every_depth fun D => AnyS.slices_Sort_string_none_alone Tryd.lays190 D p cap w
theorem compC29 : CompC Tryd.prog Go.Proofs.encStr ([] : List UInt8) 29 where
  fn := ⟨_, Tryd.func29, by kernel_rfl, by kernel_rfl⟩
  row := fun g cap zs w hH hl hc => calls_of_every_depth fun D => AnyS.slices_Compact_string_in Tryd.lays194 D g 0 cap zs w hH hl hc
  none := fun p cap w => calls_of_every_depth fun D => AnyS.slices_Compact_string_empty_in Tryd.lays194 D p cap w
theorem ofB_toB {s : List Nat} (h : ∀ x ∈ s, x < 256) : ofB (toB s) = s := by
  unfold ofB toB
  rw [List.map_map]
  conv => rhs; rw [← List.map_id s]
  refine List.map_congr_left fun x hx => ?_
  have := h x hx
  simp [Function.comp, UInt8.toNat_ofNat', Nat.mod_eq_of_lt this]
theorem toB_ofB (b : List UInt8) : toB (ofB b) = b := by
  unfold ofB toB
  rw [List.map_map]
  conv => rhs; rw [← List.map_id b]
  exact List.map_congr_left fun x _ => by simp
theorem ofB_lt (b : List UInt8) : ∀ x ∈ ofB b, x < 256 := by
  intro x hx
  obtain ⟨y, _, rfl⟩ := List.mem_map.1 hx
  exact y.toNat_lt
def okB (L : List Str) : Prop := ∀ t ∈ L, ∀ x ∈ t.s, x < 256
theorem sortS_bytes (L : List Str) : okB (sortS L) := by
  intro t ht
  obtain ⟨b, _, rfl⟩ := List.mem_map.1 ht
  exact ofB_lt b
theorem notB_bytes {B F : List Str} (h : okB F) : okB (notB B F) := fun t ht => h t (List.mem_filter.1 ht).1
mutual
theorem freeT_bytes : ∀ t : Nd, fit t → okB (freeT t)
  | .mk o p q n a ks, h => by
    simp only [freeT]
    cases natsBeq o varS with
    | true =>
      simp only [cond_true]
      intro t ht
      rw [List.mem_singleton.1 ht]
      simp only [fit] at h
      exact h.2.1.2
    | false => exact sortS_bytes _
theorem freeTL_bytes (o p q : List Nat) (i : Nat) : ∀ l : List Nd, fits l → okB (freeTL o p q i l)
  | [], _ => fun t ht => by simp [freeTL] at ht
  | t :: l, h => by
    simp only [fits] at h
    simp only [freeTL]
    intro u hu
    rcases List.mem_append.1 hu with hu | hu
    · exact notB_bytes (freeT_bytes t h.1) u hu
    · exact freeTL_bytes o p q (i + 1) l h.2 u hu
end
theorem strs_toB {L : List Str} (h : okB L) : strs L = (L.map fun t => toB t.s).map fun z => AV.str (ofB z) := by
  unfold strs
  rw [List.map_map]
  exact List.map_congr_left fun t ht => by simp only [Function.comp, ofB_toB (h t ht)]
theorem bytes_of (z : List UInt8) : bytesOf ⟨z.toArray⟩ = ofB z := by simp [bytesOf, ofB]
theorem enc_VR (G : Gh) (w : World) (z : List UInt8) : VR G w (Go.Proofs.encStr z) (.str (ofB z)) := by
  rw [← bytes_of]
  exact .str ⟨z.toArray⟩
theorem enc_inv (G : Gh) (w : World) (V : Value) (z : List UInt8) (r : VR G w V (.str (ofB z))) : V = Go.Proofs.encStr z := by
  generalize he : ofB z = l at r
  cases r with
  | str s =>
    have : s.data.toList = z := by
      have e : toB (bytesOf s) = toB (ofB z) := by rw [he]
      rw [toB_ofB] at e
      rw [← e]
      exact (toB_ofB s.data.toList).symm
    show Value.string s = .string ⟨z.toArray⟩
    rw [← this]
theorem kids_len : ∀ l : List Nd, l.length ≤ sizes l
  | [] => Nat.le_refl _
  | t :: l => by
    have := kids_len l
    have h2 : 1 ≤ t.size := by rw [size_eq]; omega
    simp only [List.length_cons, sizes]
    omega
def qFr (d : Nat) (t : Nd) : Prop := dep t ≤ d ∧ fit t ∧ t.size ≤ 1000000
def qFr' (t : Nd) : Prop := fit t ∧ t.size ≤ 1000000
noncomputable abbrev pdFr (d : Nat) := primVal (ofRel (Rel1 (qFr d) freeT))
noncomputable abbrev pTFree := primVal (ofRel (Rel1 qFr' freeT))
noncomputable abbrev e2627 : Env := addPrim (addPrim env 26 pBindT) 27 pHasS
theorem e2627_ok : EnvOk Tryd.prog e2627 := addPrim_ok (addPrim_ok env_ok p26_ok) p27_ok
theorem pd15_ok : ∀ d, PrimOk Tryd.prog 15 (pdFr d) := prim_rec e2627_ok (prim_none Tryd.func15 (by kernel_rfl) (by kernel_rfl) (prim_empty1 fun a h => by have := dep_pos a; have := h.1; omega)) fun d hE => by
  refine primVal_direct' (fn := Tryd.f15) Tryd.func15 (by kernel_rfl) (by kernel_rfl) fun args v hv => ?_
  obtain ⟨t, h1, ⟨hdp, hf, hs⟩, rfl⟩ := ofRel_some hv
  refine ⟨_, h1, fun G w A I hA => ?_⟩
  have hty : (addPrim e2627 15 (pdFr d)).ty = env.ty := rfl
  have hpl : (addPrim e2627 15 (pdFr d)).plan = env.plan := rfl
  have hfn15 : (addPrim e2627 15 (pdFr d)).fns 15 = some Tryd.f15 := by kernel_rfl
  have h26 : (addPrim e2627 15 (pdFr d)).prim 26 = some pBindT := by kernel_rfl
  have h27 : (addPrim e2627 15 (pdFr d)).prim 27 = some pHasS := by kernel_rfl
  have hcall : ∀ t h, dep t ≤ d → fit t → t.size ≤ 1000000 → evL (addPrim e2627 15 (pdFr d)) 15 [t.av] h = some (.sl .no (strs (freeT t)), h) := fun t h h1 h2 h3 =>
    prim1_call (a := t) (F := freeT) (q := qFr d) (by kernel_rfl) (Enc.bare 0 t) ⟨h1, h2, h3⟩ h
  generalize addPrim e2627 15 (pdFr d) = E at *
  rw [show (Enc.enc t : AV) = t.av from rfl] at hA
  rw [dep_eq] at hdp
  have hkl := kids_len t.kids
  have hse := size_eq t
  have hfit := (fit_iff t).1 hf
  cases hb : natsBeq t.op varS with
  | true =>
    obtain ⟨h1, he⟩ := var15_run (E := E) hty hpl hb
    have eF : freeT t = [⟨t.name⟩] := by
      obtain ⟨o, p, q, n, a, ks⟩ := t
      simp only [freeT, Nd.op] at hb ⊢
      rw [hb]; rfl
    rw [eF]
    exact body_direct hE hfn15 bodyT15 (by kernel_rfl) he (by rw [strs_enc]; exact strs_bare 0 .full _) G w A I hA
  | false =>
    have eF : freeT t = sortS (freeTL t.op t.name t.arg 0 t.kids) := by
      obtain ⟨o, p, q, n, a, ks⟩ := t
      simp only [freeT, Nd.op, Nd.name, Nd.arg, Nd.kids] at hb ⊢
      rw [hb]; rfl
    have T0 : TmR (Gp G) w 47 (setArgs 0 [t.av] .e) { tmps := A ++ Array.replicate (47 - A.size) undef, defers := [] } := tmr_start (by simp) hA
    have hco := hE.plans 15 Tryd.f15 _ hfn15 bodyT15
    obtain ⟨tm, h', w', hx, g3, hr⟩ := pre15_run (E := E) hty hpl h26 h27 hb hf (d := d) (by omega) hs (by omega) hcall
    have hrl := freeTL_len t.op t.name t.arg 0 t.kids
    have hby := freeTL_bytes t.op t.name t.arg 0 t.kids hfit.2.2.2.2.2.2
    rw [eF, strs_enc]
    have eS : strs (sortS (freeTL t.op t.name t.arg 0 t.kids)) = (Lib.compact (sortB ((freeTL t.op t.name t.arg 0 t.kids).map fun t => toB t.s))).map fun z => AV.str (ofB z) := by
      simp only [strs, sortS, List.map_map, Function.comp_def]
    rw [eS]
    refine (calls_of_wp (R := fun e w3 => ∃ V', e = .returned V' ∧ Old w w3 ∧ ∀ G' : Gh, (∀ b, w.heap.size ≤ b → G'.fr b = none) → VR G' w3 V' (.sl .no ((Lib.compact (sortB ((freeTL t.op t.name t.arg 0 t.kids).map fun t => toB t.s))).map fun z => AV.str (ofB z)))) Tryd.func15 bodyT15 ?_).mono (by rintro e w' ⟨V, h1, h2, h3⟩; exact ⟨V, h1, h2, fun hG => h3 G hG⟩)
    refine seq4_sim hE (by simp only [codeOk, Bool.and_eq_true] at hco ⊢; exact ⟨hco.1, hco.2.1, hco.2.2.1, hco.2.2.2.1⟩) I T0 hx fun G1 w1 a1 I1 X1 T1 d1 => ?_
    have r := T1.val 3 _ g3
    have hsz := T1.size
    rw [strs_toB hby] at r
    have hzl : ((freeTL t.op t.name t.arg 0 t.kids).map fun t => toB t.s).length = (freeTL t.op t.name t.arg 0 t.kids).length := List.length_map ..
    have hfr : (w' = .full ∧ ((freeTL t.op t.name t.arg 0 t.kids).map fun t => toB t.s) = []) ∨ ∃ id, w' = .ch id ∧ h'.t.get id = some (.chain ((freeTL t.op t.name t.arg 0 t.kids).map fun t => toB t.s).length 9 1) := by
      rcases hr with ⟨e, e0⟩ | ⟨id, e, hg, _⟩
      · refine .inl ⟨e, ?_⟩
        have : freeTL t.op t.name t.arg 0 t.kids = [] := by simpa [strs] using e0
        rw [this]; rfl
      · exact .inr ⟨id, e, by rw [hzl, ← strs_len]; exact hg⟩
    have ho := row_owned (enc := Go.Proofs.encStr) I1 X1 (av := fun z => AV.str (ofB z)) enc_inv (fun _ => rfl) hfr r
    obtain ⟨o0, o1, o2, o3, o4, hT, q0, q1, q2, q3, q4⟩ : ∃ o0 o1 o2 o3 o4, codeAt Tryd.f15 [1, 1, 1, 1] = .seq (.region 15 #[o0, o1] false) (.seq (.region 16 #[o2, o3, o4] false) .ret) ∧ (o0.op = .move (.tmp 3) ∧ o0.dst = some 43 ∧ o0.guard = none) ∧
        (o1.op = .call { callee := .value (.func 28), args := #[.tmp 43], argTypes := #[29] } ∧ o1.dst = some 44 ∧ o1.guard = none) ∧ (o2.op = .move (.tmp 3) ∧ o2.dst = some 45 ∧ o2.guard = none) ∧
        (o3.op = .call { callee := .value (.func 29), args := #[.tmp 45], argTypes := #[29] } ∧ o3.dst = some 46 ∧ o3.guard = none) ∧ (o4.op = .assign (.tmp 46) ∧ o4.dst = some 2 ∧ o4.guard = none) :=
      ⟨_, _, _, _, _, rfl, ⟨rfl, rfl, rfl⟩, ⟨rfl, rfl, rfl⟩, ⟨rfl, rfl, rfl⟩, ⟨rfl, rfl, rfl⟩, ⟨rfl, rfl, rfl⟩⟩
    rw [hT]
    exact tail_sc (e := 9) sortC28 compC29 (av := fun z => AV.str (ofB z)) enc_VR (fun _ => rfl) rfl (below_of_ext X1) (by omega) ho q0 q1 q2 q3 q4 rfl d1 rfl (by rw [hsz]; omega) (by omega)
theorem p15_ok : PrimOk Tryd.prog 15 pTFree := prim_union pd15_ok (union1 fun a h => ⟨dep a, Nat.le_refl _, h⟩)
end Go.Proofs.YtmnhhlkbpjemnaaDoor.Env
