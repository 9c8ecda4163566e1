/- Calls of values alone: what they come to on the empty heap they come to everywhere. -/
import Derived.Test.YtncccgglillmoaaGreatDoorEvX
set_option autoImplicit false
set_option linter.unusedSectionVars false
set_option linter.unusedVariables false
set_option linter.unusedSimpArgs false
namespace Go.Ev
variable [Inhabited KA0] [MT]

mutual
/-- No reference to an object. -/
def AV.pure : AV → Bool
  | .ptr (some _) => false
  | .vp cs => AV.pures cs
  | .sl _ els => AV.pures els
  | .map (some _) => false
  | .fn _ a b => AV.pures a && AV.pures b
  | .iface _ v => v.pure
  | .agg cs => AV.pures cs
  | .tup vs => AV.pures vs
  | .rs _ _ _ => false
  | .rp _ _ _ => false
  | _ => true
def AV.pures : List AV → Bool
  | [] => true
  | a :: l => a.pure && AV.pures l
end
mutual
/-- Without what is known of owners. -/
def AV.forget : AV → AV
  | .vp cs => .vp (AV.forgets cs)
  | .sl o els => .sl (match o with | .full => .full | _ => .no) (AV.forgets els)
  | .fn f a b => .fn f (AV.forgets a) (AV.forgets b)
  | .iface t v => .iface t v.forget
  | .agg cs => .agg (AV.forgets cs)
  | .tup vs => .tup (AV.forgets vs)
  | v => v
def AV.forgets : List AV → List AV
  | [] => []
  | a :: l => a.forget :: AV.forgets l
end
theorem forgets_map : ∀ l : List AV, AV.forgets l = l.map AV.forget
  | [] => rfl
  | a :: l => by rw [AV.forgets, forgets_map l]; rfl
theorem pures_all : ∀ {l : List AV}, AV.pures l = true → ∀ x ∈ l, x.pure = true
  | [], _, x, hx => by simp at hx
  | a :: l, h, x, hx => by
    simp only [AV.pures, Bool.and_eq_true] at h
    rcases List.mem_cons.1 hx with rfl | hx
    · exact h.1
    · exact pures_all h.2 x hx
theorem forget_cells (x : AV) : x.forget.cells = x.cells.map AV.forget := by
  cases x <;> simp [AV.forget, AV.cells, forgets_map]
theorem pure_cells {x : AV} (h : x.pure = true) : ∀ y ∈ x.cells, y.pure = true := by
  cases x <;> simp only [AV.cells, List.mem_singleton, forall_eq] <;> try exact h
  rename_i cs
  simp only [AV.pure] at h
  exact pures_all h

theorem get_forgets {l : List AV} {i : Nat} {x : AV} (h : (AV.forgets l)[i]? = some x) : ∃ y, l[i]? = some y ∧ x = y.forget := by
  rw [forgets_map, List.getElem?_map] at h
  cases hl : l[i]? with
  | none => rw [hl] at h; simp at h
  | some y => rw [hl] at h; simp at h; exact ⟨y, rfl, h.symm⟩
theorem forgets_length (l : List AV) : (AV.forgets l).length = l.length := by rw [forgets_map]; simp

theorem VR.forget {G G' : Gh} {w w' : World} (hS : ∀ b o v, Stb G w b o v → Stb G' w' b o v) {V : Value} {x : AV} (r : VR G w V x) : x.pure = true → VR G' w' V x.forget := by
  induction r with
  | bool b => intro _; exact .bool b
  | int k n => intro _; exact .int k n
  | str s => intro _; exact .str s
  | ptr0 => intro _; exact .ptr0
  | ptr id b off h => intro h; simp [AV.pure] at h
  | rs id len b cap own hc h => intro h; simp [AV.pure] at h
  | rp id len off b h => intro h; simp [AV.pure] at h
  | vp b off cs f h1 h2 ih =>
    intro hp
    simp only [AV.pure] at hp
    refine .vp b off _ f (fun j hj => hS _ _ _ (h1 j (by rwa [forgets_length] at hj))) (fun j y hy => ?_)
    obtain ⟨z, hz, rfl⟩ := get_forgets hy
    exact ih j z hz (pures_all hp z (List.mem_of_getElem? hz))
  | sl0 A cap o hn h =>
    intro _
    refine .sl0 A cap _ hn ?_
    cases o <;> simp only [OwnR]
    exact h
  | sl b off len cap s o els f hl hc hs h1 h2 ho ih =>
    intro hp
    simp only [AV.pure] at hp
    refine .sl b off len cap s _ _ f (by rw [forgets_length]; exact hl) hc (fun y hy => ?_) (fun i j hi hj => hS _ _ _ (h1 i j hi hj)) (fun i j y z hy hz => ?_) ?_
    · rw [forgets_map] at hy
      obtain ⟨z, hz, rfl⟩ := List.mem_map.1 hy
      rw [forget_cells, List.length_map]
      exact hs z hz
    · obtain ⟨y', hy', rfl⟩ := get_forgets hy
      rw [forget_cells, List.getElem?_map] at hz
      cases hc' : y'.cells[j]? with
      | none => rw [hc'] at hz; simp at hz
      | some z' =>
        rw [hc'] at hz
        simp only [Option.map_some, Option.some.injEq] at hz
        subst hz
        exact ih i j y' z' hy' hc' (pure_cells (pures_all hp y' (List.mem_of_getElem? hy')) z' (List.mem_of_getElem? hc'))
    · cases o <;> simp only [OwnR] at ho ⊢
      exact ho
  | map0 => intro _; exact .map0
  | map id b h => intro h; simp [AV.pure] at h
  | fn f a b c d ha hb h1 h2 ih1 ih2 =>
    intro hp
    simp only [AV.pure, Bool.and_eq_true] at hp
    refine .fn f a b _ _ (by rw [forgets_length]; exact ha) (by rw [forgets_length]; exact hb) (fun i v x hv hx => ?_) (fun i v x hv hx => ?_)
    · obtain ⟨z, hz, rfl⟩ := get_forgets hx
      exact ih1 i v z hv hz (pures_all hp.1 z (List.mem_of_getElem? hz))
    · obtain ⟨z, hz, rfl⟩ := get_forgets hx
      exact ih2 i v z hv hz (pures_all hp.2 z (List.mem_of_getElem? hz))
  | nilFn => intro _; exact .nilFn
  | iface t v x h ih => intro hp; exact .iface t v _ (ih hp)
  | nilIface => intro _; exact .nilIface
  | agg a c ha h1 ih =>
    intro hp
    simp only [AV.pure] at hp
    refine .agg a _ (by rw [forgets_length]; exact ha) (fun i v x hv hx => ?_)
    obtain ⟨z, hz, rfl⟩ := get_forgets hx
    exact ih i v z hv hz (pures_all hp z (List.mem_of_getElem? hz))
  | tup a c ha h1 ih =>
    intro hp
    simp only [AV.pure] at hp
    refine .tup a _ (by rw [forgets_length]; exact ha) (fun i v x hv hx => ?_)
    obtain ⟨z, hz, rfl⟩ := get_forgets hx
    exact ih i v z hv hz (pures_all hp z (List.mem_of_getElem? hz))

/-- The inner call's look at memory: nothing is owned, what may be written may still not be leant on. -/
def Gp (G : Gh) : Gh := ⟨fun _ => none, fun _ => none, G.fr, fun _ => none, G.base⟩
theorem invp {G : Gh} {w : World} {h : H} (I : Inv G w h) : Inv (Gp G) w ⟨.e, 0⟩ where
  wf := fun id o h => by cases id <;> simp [T.get] at h
  frb := I.frb
  bas := I.bas
  obj := fun id b h => by simp [Gp] at h
  chn := fun id n v h => by simp [Gp] at h
  ka := I.ka

def primPure (p : List AV → Option AV) : List AV → H → Option (AV × H) := fun args h =>
  bif AV.pures args then (match p (AV.forgets args) with | none => none | some v => some (v, h)) else none

theorem primPure_ok {P : Program} {E : Env} (hE : EnvOk P E) {f : Nat} {fn : Func} (hfn : P.funcs[f]? = some fn) (hnm : (fn.name == "runtime.NumGoroutine") = false) (hb : fn.body.isNone = false) {p : List AV → Option AV}
    (hp : ∀ args v, p args = some v → ∃ k v' h1, evFn E k f args ⟨.e, 0⟩ = some (v', h1) ∧ v'.pure = true ∧ v'.forget = v) : PrimOk P f (primPure p) := by
  refine ⟨⟨fn, hfn, hnm, hb⟩, fun args h v h' he G w A I hA => ?_⟩
  unfold primPure at he
  cases hpu : AV.pures args with
  | false => rw [hpu] at he; simp at he
  | true =>
    rw [hpu] at he
    simp only [cond_true] at he
    cases hv : p (AV.forgets args) with
    | none => rw [hv] at he; simp at he
    | some v0 =>
      rw [hv] at he
      simp only [Option.some.injEq, Prod.mk.injEq] at he
      obtain ⟨rfl, rfl⟩ := he
      obtain ⟨k, v', h1, hev, hvp, rfl⟩ := hp _ _ hv
      have hA' : VRs (Gp G) w A.toList (AV.forgets args) := by
        refine ⟨by rw [forgets_length]; exact hA.1, fun i u x hu hx => ?_⟩
        obtain ⟨z, hz, rfl⟩ := get_forgets hx
        exact VR.forget (G := G) (G' := Gp G) (fun b o v s => show Stb (Gp G) w b o v from s) (hA.2 i u z hu hz) (pures_all hpu z (List.mem_of_getElem? hz))
      refine ((fn_sim hE k f _ _ _ _ hev).2 (Gp G) w A (invp I) hA').mono ?_
      rintro e w' ⟨G', V, rfl, hV, hI, hX⟩
      have hh : ∀ j, j < w.heap.size → w'.heap[j]? = w.heap[j]? := fun j hj => (hX.own j hj rfl).1
      refine ⟨G, V, rfl, hV.forget (fun b o v s => ⟨s.1, ?_⟩) hvp, grow_inv I hX.os hX.tape hX.output hX.size hh, grow_ext G _ hX.os hX.tape hX.output hX.size hh⟩
      by_cases hbs : b < w.heap.size
      · have := (hX.own b hbs rfl).2.1
        have s2 := s.2
        rw [this] at s2
        exact s2
      · cases hf : G.fr b with
        | none => exact .inl rfl
        | some k' => exact absurd (I.frb b k' hf).2 hbs

theorem ikBeq_refl (k : IntKind) : ikBeq k k = true := by cases k <;> rfl
theorem nat_beq_refl (n : Nat) : Nat.beq n n = true := beq_nat.2 rfl
theorem natsBeq_refl : ∀ l : List Nat, natsBeq l l = true
  | [] => rfl
  | a :: l => by simp [natsBeq, nat_beq_refl, natsBeq_refl l]
mutual
theorem AV.beq_refl : ∀ x : AV, AV.beq x x = true
  | .bool b => by simp [AV.beq]
  | .int k n => by simp [AV.beq, ikBeq_refl, intBeq_eq]
  | .str s => by simp [AV.beq, natsBeq_refl]
  | .ptr none => by simp [AV.beq, optPairBeq]
  | .ptr (some (a, b)) => by simp [AV.beq, optPairBeq, nat_beq_refl]
  | .vp cs => by simp [AV.beq, AV.beqs_refl cs]
  | .sl o els => by cases o <;> simp [AV.beq, AV.beqs_refl els, Own.beq, nat_beq_refl]
  | .map none => by simp [AV.beq, optNatBeq]
  | .map (some a) => by simp [AV.beq, optNatBeq, nat_beq_refl]
  | .fn f a b => by simp [AV.beq, nat_beq_refl, AV.beqs_refl a, AV.beqs_refl b]
  | .nilFn => by simp [AV.beq]
  | .iface t v => by simp [AV.beq, nat_beq_refl, AV.beq_refl v]
  | .nilIface => by simp [AV.beq]
  | .agg cs => by simp [AV.beq, AV.beqs_refl cs]
  | .tup vs => by simp [AV.beq, AV.beqs_refl vs]
  | .rs a b o => by cases o <;> simp [AV.beq, nat_beq_refl]
  | .rp a b c => by simp [AV.beq, nat_beq_refl]
theorem AV.beqs_refl : ∀ l : List AV, AV.beqs l l = true
  | [] => by simp [AV.beqs]
  | a :: l => by simp [AV.beqs, AV.beq_refl a, AV.beqs_refl l]
end
end Go.Ev
