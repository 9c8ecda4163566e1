/- The program's Look as a primitive. -/
import Derived.Test.YtncccgglillmoaaGreatDoorZLb
import Derived.Test.YtncccgglillmoaaGreatDoorZC
set_option autoImplicit false
set_option maxRecDepth 100000
set_option linter.unusedSimpArgs false
set_option linter.unusedVariables false
set_option linter.unusedSectionVars false
namespace Go.Proofs.YtncccgglillmoaaGreatDoor.Env
open Go.Ev

/-- What a slice's value is. -/
def isSl : AV → Bool
  | .sl _ _ => true
  | .rs _ _ _ => true
  | _ => false
/-- An env's bound, in memory. -/
structure Bd where
  name : List Nat
  vars : AV
  op : List Nat
  n : Int
  kids : AV
def Bd.ok (b : Bd) : Prop := isSl b.vars = true ∧ isSl b.kids = true
def Bd.av (b : Bd) : AV := .agg [.str b.name, b.vars, .str b.op, .int .i64 b.n, b.kids]
def scAV (b : Bd) : AV := .agg [b.vars, .str b.op, .int .i64 b.n, b.kids]
def bds (l : List Bd) : List AV := l.map Bd.av
theorem bds_len (l : List Bd) : (bds l).length = l.length := by simp [bds]
theorem bds_get {l : List Bd} {i : Nat} {b : Bd} (h : l[i]? = some b) : (bds l)[i]? = some b.av := by simp [bds, h]
def toBd : AV → Option Bd
  | .agg [.str nm, vs, .str op, .int .i64 n, ks] => bif isSl vs && isSl ks then some ⟨nm, vs, op, n, ks⟩ else none
  | _ => none
theorem toBd_some {v : AV} {b : Bd} (h : toBd v = some b) : v = b.av ∧ b.ok := by
  unfold toBd at h
  split at h
  · rename_i nm vs op n ks
    cases hc : (isSl vs && isSl ks) with
    | false => rw [hc] at h; simp at h
    | true =>
      rw [hc] at h
      simp only [cond_true, Option.some.injEq] at h
      subst h
      simp only [Bool.and_eq_true] at hc
      exact ⟨rfl, hc⟩
  · cases h
def toBds : List AV → Option (List Bd)
  | [] => some []
  | a :: l => match toBd a with
    | none => none
    | some b => match toBds l with
      | none => none
      | some m => some (b :: m)
theorem toBds_some : ∀ {l : List AV} {m : List Bd}, toBds l = some m → l = bds m ∧ ∀ b ∈ m, b.ok
  | [], m, h => by simp [toBds] at h; subst h; exact ⟨rfl, fun b hb => by simp at hb⟩
  | a :: l, m, h => by
    simp only [toBds] at h
    cases ha : toBd a with
    | none => rw [ha] at h; simp at h
    | some b =>
      cases hl : toBds l with
      | none => rw [ha, hl] at h; simp at h
      | some k =>
        rw [ha, hl] at h
        simp only [Option.some.injEq] at h
        subst h
        obtain ⟨e1, e2⟩ := toBd_some ha
        obtain ⟨e3, e4⟩ := toBds_some hl
        refine ⟨by rw [e1, e3]; rfl, fun x hx => ?_⟩
        rcases List.mem_cons.1 hx with rfl | hx
        · exact e2
        · exact e4 x hx
def lookK (bs : List Bd) (name : List Nat) : Nat → Option Bd
  | 0 => none
  | m + 1 => match bs[m]? with
    | none => none
    | some b => bif natsBeq b.name name then some b else lookK bs name m
def lookR : Option Bd → AV
  | some b => .tup [scAV b, .bool true]
  | none => .tup [.agg [.sl .full [], .str [], .int .i64 0, .sl .full []], .bool false]
def pLook (args : List AV) (h : H) : Option (AV × H) :=
  match args with
  | [.sl _ els, .str s] => match toBds els with
    | some bs => bif Nat.ble bs.length 1000000 then some (lookR (lookK bs s bs.length), h) else none
    | none => none
  | _ => none
theorem pLook_some {args : List AV} {h : H} {r : AV × H} (he : pLook args h = some r) : ∃ bs s o, args = [.sl o (bds bs), .str s] ∧ (∀ b ∈ bs, b.ok) ∧ bs.length ≤ 1000000 ∧ r = (lookR (lookK bs s bs.length), h) := by
  unfold pLook at he
  split at he
  · rename_i o els s
    split at he
    · rename_i bs hbs
      cases hc : Nat.ble bs.length 1000000 with
      | false => rw [hc] at he; simp at he
      | true =>
        rw [hc] at he
        simp only [cond_true, Option.some.injEq] at he
        obtain ⟨rfl, e2⟩ := toBds_some hbs
        exact ⟨bs, s, o, rfl, e2, Nat.le_of_ble_eq_true hc, he.symm⟩
    · cases he
  · cases he
theorem isSl_inv {G : Gh} {w : World} {V : Value} {x : AV} (hx : isSl x = true) (r : VR G w V x) : ∃ p l c, V = .slice p l c := by
  cases x <;> simp [isSl] at hx
  · cases r <;> exact ⟨_, _, _, rfl⟩
  · cases r; exact ⟨_, _, _, rfl⟩
theorem lookK_skip {bs : List Bd} {name : List Nat} : ∀ j, j ≤ bs.length → (∀ i ∈ downTo bs.length j, ∀ b, bs[i]? = some b → natsBeq b.name name = false) → lookK bs name bs.length = lookK bs name (bs.length - j)
  | 0, _, _ => rfl
  | j + 1, hj, h => by
    rw [lookK_skip j (by omega) fun i hi => h i (by rw [downTo_succ]; exact List.mem_append_left _ hi)]
    obtain ⟨m, hm⟩ : ∃ m, bs.length - j = m + 1 := ⟨bs.length - j - 1, by omega⟩
    rw [hm, show bs.length - (j + 1) = m by omega, lookK]
    have hlt : m < bs.length := by omega
    rw [List.getElem?_eq_getElem hlt]
    have := h m (by rw [downTo_succ]; exact List.mem_append_right _ (by simp; omega)) _ (List.getElem?_eq_getElem hlt)
    simp only [this, cond_false]
theorem downTo_lt {len k : Nat} : ∀ i ∈ downTo len k, k ≤ len → i < len := by
  intro i hi hk
  simp only [downTo, List.mem_map, List.mem_range] at hi
  obtain ⟨m, h1, rfl⟩ := hi
  omega
theorem slice_inv {G : Gh} {w : World} {V : Value} {o : Go.Ev.Own} {els : List AV} (r : VR G w V (.sl o els)) : ∃ p c, V = .slice p els.length c := by
  cases r with
  | sl0 A cap o hn h => exact ⟨A, cap, rfl⟩
  | sl b off len cap s o els f hl hc hs h1 h2 ho => exact ⟨_, cap, by rw [hl]⟩
theorem str_inv {G : Gh} {w : World} {V : Value} {l : List Nat} (r : VR G w V (.str l)) : ∃ s : ByteArray, V = .string s ∧ bytesOf s = l := by cases r; exact ⟨_, rfl, rfl⟩
theorem int_inv2 {G : Gh} {w : World} {V : Value} {k : IntKind} {n : Int} (r : VR G w V (.int k n)) : V = .int k n := by cases r; rfl
theorem agg4 {G : Gh} {w : World} {v1 v2 v3 v4 : Value} {x1 x2 x3 x4 : AV} (c1 : VR G w v1 x1) (c2 : VR G w v2 x2) (c3 : VR G w v3 x3) (c4 : VR G w v4 x4) : VR G w (.agg #[v1, v2, v3, v4]) (.agg [x1, x2, x3, x4]) :=
  .agg _ _ rfl fun j v x hv hx => by
    match j with
    | 0 => simp at hv hx; rw [← hv, ← hx]; exact c1
    | 1 => simp at hv hx; rw [← hv, ← hx]; exact c2
    | 2 => simp at hv hx; rw [← hv, ← hx]; exact c3
    | 3 => simp at hv hx; rw [← hv, ← hx]; exact c4
    | j + 4 => simp at hv
/-- An env in memory. -/
theorem env_rows {G : Gh} {w : World} {V : Value} {bs : List Bd} (hok : ∀ b ∈ bs, b.ok) {o : Go.Ev.Own} (r : VR G w V (.sl o (bds bs))) : ∃ A cap, V = .slice A bs.length cap ∧ ∃ (nm : Nat → ByteArray) (r1 r2 r3 r4 : Nat → Value),
    (∀ x, ∃ p1 l1 c1 s2 n3 p4 l4 c4, r1 x = .slice p1 l1 c1 ∧ r2 x = .string s2 ∧ r3 x = .int .i64 n3 ∧ r4 x = .slice p4 l4 c4) ∧
    Rows5 w.heap.size w V bs.length (fun i => .string (nm i)) r1 r2 r3 r4 ∧
    ∀ (i : Nat) b, bs[i]? = some b → bytesOf (nm i) = b.name ∧ VR G w (.agg #[r1 i, r2 i, r3 i, r4 i]) (scAV b) := by
  obtain ⟨A, cap, e⟩ := slice_inv r
  rw [bds_len] at e
  refine ⟨A, cap, e, ?_⟩
  have dflt : ∀ x : Nat, ∃ p1 l1 c1 s2 n3 p4 l4 c4, (Value.slice none 0 0 : Value) = .slice p1 l1 c1 ∧ (Value.string ByteArray.empty) = .string s2 ∧ (Value.int .i64 0) = .int .i64 n3 ∧ (Value.slice none 0 0 : Value) = .slice p4 l4 c4 := fun _ => ⟨_, _, _, _, _, _, _, _, rfl, rfl, rfl, rfl⟩
  cases bs with
  | nil =>
    exact ⟨fun _ => ByteArray.empty, fun _ => .slice none 0 0, fun _ => .string ByteArray.empty, fun _ => .int .i64 0, fun _ => .slice none 0 0, dflt, .inl ⟨A, cap, e, rfl⟩, fun i b hb => by simp at hb⟩
  | cons b0 bs =>
    generalize hels : bds (b0 :: bs) = els at r
    generalize hl0 : b0 :: bs = L at *
    have hbl := bds_len L
    rw [hels] at hbl
    have hpos : 0 < L.length := by rw [← hl0]; simp
    cases r with
    | sl0 A' cap' o hn h => simp at hbl; omega
    | sl b off len cap' s o els f hl hc hs h1 h2 ho =>
      have hcell : ∀ (i : Nat) b, L[i]? = some b → VR G w (f i 0) (.str b.name) ∧ VR G w (f i 1) b.vars ∧ VR G w (f i 2) (.str b.op) ∧ VR G w (f i 3) (.int .i64 b.n) ∧ VR G w (f i 4) b.kids := by
        intro i b hb
        have hat := bds_get hb
        rw [hels] at hat
        have hc : b.av.cells = [.str b.name, b.vars, .str b.op, .int .i64 b.n, b.kids] := rfl
        exact ⟨h2 i 0 _ _ hat (by rw [hc]; rfl), h2 i 1 _ _ hat (by rw [hc]; rfl), h2 i 2 _ _ hat (by rw [hc]; rfl), h2 i 3 _ _ hat (by rw [hc]; rfl), h2 i 4 _ _ hat (by rw [hc]; rfl)⟩
      have hs5 : s = 5 := by
        have hat := bds_get (l := L) (i := 0) (List.getElem?_eq_getElem hpos)
        rw [hels] at hat
        rw [← hs _ (List.mem_of_getElem? hat)]
        rfl
      subst hs5
      have hLl : len = L.length := by omega
      -- per place
      have hat : ∀ i, ∃ (n : ByteArray) (v1 v2 v3 v4 : Value), (∃ p1 l1 c1 s2 n3 p4 l4 c4, v1 = .slice p1 l1 c1 ∧ v2 = .string s2 ∧ v3 = .int .i64 n3 ∧ v4 = .slice p4 l4 c4) ∧ (i < L.length → f i 0 = .string n ∧ f i 1 = v1 ∧ f i 2 = v2 ∧ f i 3 = v3 ∧ f i 4 = v4) := by
        intro i
        by_cases hi : i < L.length
        · obtain ⟨c0, c1, c2, c3, c4⟩ := hcell i _ (List.getElem?_eq_getElem hi)
          obtain ⟨s0, e0, _⟩ := str_inv c0
          obtain ⟨ok1, ok4⟩ := hok _ (List.getElem_mem hi)
          obtain ⟨p1, l1, d1, e1⟩ := isSl_inv ok1 c1
          obtain ⟨s2, e2, _⟩ := str_inv c2
          obtain ⟨p4, l4, d4, e4⟩ := isSl_inv ok4 c4
          exact ⟨s0, _, _, _, _, ⟨p1, _, d1, s2, _, p4, _, d4, rfl, rfl, rfl, rfl⟩, fun _ => ⟨e0, e1, e2, int_inv2 c3, e4⟩⟩
        · exact ⟨ByteArray.empty, _, _, _, _, dflt i, fun h => absurd h hi⟩
      refine ⟨fun i => (hat i).choose, fun i => (hat i).choose_spec.choose, fun i => (hat i).choose_spec.choose_spec.choose, fun i => (hat i).choose_spec.choose_spec.choose_spec.choose, fun i => (hat i).choose_spec.choose_spec.choose_spec.choose_spec.choose, fun i => (hat i).choose_spec.choose_spec.choose_spec.choose_spec.choose_spec.1, .inr ⟨b, off, cap', by rw [hLl], ?_, fun i hi => ?_⟩, fun i b' hb' => ?_⟩
      · have := (h1 0 0 (by omega) (by omega)).1
        simp only [World.cell?] at this
        cases hh : w.heap[b]? with
        | none => rw [hh] at this; simp at this
        | some o => exact (Array.getElem?_eq_some_iff.1 hh).1
      · obtain ⟨e0, e1, e2, e3, e4⟩ := (hat i).choose_spec.choose_spec.choose_spec.choose_spec.choose_spec.2 hi
        have g0 := (h1 i 0 (by omega) (by omega)).1
        have g1 := (h1 i 1 (by omega) (by omega)).1
        have g2 := (h1 i 2 (by omega) (by omega)).1
        have g3 := (h1 i 3 (by omega) (by omega)).1
        have g4 := (h1 i 4 (by omega) (by omega)).1
        rw [e0, Nat.add_zero] at g0
        rw [e1] at g1
        rw [e2] at g2
        rw [e3] at g3
        rw [e4] at g4
        exact ⟨g0, g1, g2, g3, g4⟩
      · have hi : i < L.length := getElem?_lt hb'
        obtain ⟨e0, e1, e2, e3, e4⟩ := (hat i).choose_spec.choose_spec.choose_spec.choose_spec.choose_spec.2 hi
        obtain ⟨c0, c1, c2, c3, c4⟩ := hcell i _ hb'
        rw [e0] at c0
        rw [e1] at c1
        rw [e2] at c2
        rw [e3] at c3
        rw [e4] at c4
        obtain ⟨s0, q0, q1⟩ := str_inv c0
        cases q0
        refine ⟨q1, ?_⟩
        exact agg4 c1 c2 c3 c4
theorem pLook_ok : PrimOk Tryz.prog 57 pLook := by
  refine ⟨⟨Tryz.f57, Tryz.func57, by kernel_rfl, by kernel_rfl⟩, fun args h v h' he G w A I hA => ?_⟩
  obtain ⟨bs, name, o, rfl, hok, hq, he⟩ := pLook_some he
  simp only [Prod.mk.injEq] at he
  obtain ⟨rfl, rfl⟩ := he
  obtain ⟨l⟩ := A
  obtain ⟨V0, l, rfl, r0, hA⟩ := hA.uncons
  obtain ⟨V1, l, rfl, r1, hA⟩ := hA.uncons
  have : l = [] := List.eq_nil_of_length_eq_zero hA.1
  subst this
  obtain ⟨s, rfl, hs⟩ := str_inv r1
  obtain ⟨A, cap, e, nm, q1, q2, q3, q4, hk, hR, hb⟩ := env_rows hok r0
  have hm : ∀ (i : Nat) b, bs[i]? = some b → natsBeq b.name name = ((nm i).toList == s.toList) := fun i b h => by rw [← (hb i b h).1, ← hs, natsBeq_eq, bytesOf_eq]
  refine (callsIn_wide.1 (look_in Fence.wide 3 trivial trivial trivial rfl (Nat.le_refl _) w V0 A cap bs.length e (by omega) nm s q1 q2 q3 q4 hk hR)).mono ?_
  rintro e' w' ⟨hB, hcase⟩
  have hE := grow_ext G h' hB.os hB.tape hB.output hB.size fun j hj => hB.block j hj
  have hI := grow_inv I hB.os hB.tape hB.output hB.size fun j hj => hB.block j hj
  rcases hcase with ⟨rfl, hn⟩ | ⟨k, x, hkl, hd, hn, hx, rfl⟩
  · refine ⟨G, _, rfl, ?_, hI, hE⟩
    have eF : lookK bs name bs.length = none := by
      rw [lookK_skip bs.length (Nat.le_refl _) fun i hi b h => by rw [hm i b h]; exact hn i hi, Nat.sub_self]
      rfl
    rw [eF]
    refine .tup _ _ rfl fun j v x hv hx => ?_
    match j with
    | 0 =>
      simp at hv hx
      rw [← hv, ← hx]
      refine .agg _ _ rfl fun j v x hv hx => ?_
      match j with
      | 0 => simp [AV.cells] at hv hx; rw [← hv, ← hx]; exact .sl0 none 0 .full (fun _ => rfl) rfl
      | 1 => simp [AV.cells] at hv hx; rw [← hv, ← hx]; exact .str ByteArray.empty
      | 2 => simp [AV.cells] at hv hx; rw [← hv, ← hx]; exact .int _ _
      | 3 => simp [AV.cells] at hv hx; rw [← hv, ← hx]; exact .sl0 none 0 .full (fun _ => rfl) rfl
      | j + 4 => simp at hv
    | 1 => simp at hv hx; rw [← hv, ← hx]; exact .bool _
    | j + 2 => simp at hv
  · refine ⟨G, _, rfl, ?_, hI, hE⟩
    obtain ⟨k, rfl⟩ : ∃ k', k = k' + 1 := by
      cases k with
      | zero => exact absurd hd (by simp [downTo])
      | succ k => exact ⟨k, rfl⟩
    rw [downTo_succ] at hd
    simp only [Nat.add_sub_cancel] at hd hn
    have hxe : x = bs.length - 1 - k := by
      have := (List.append_inj' hd rfl).2
      simp at this
      omega
    have hxl : x < bs.length := by omega
    have hbx := List.getElem?_eq_getElem hxl
    generalize bs[x] = b at hbx
    have eF : lookK bs name bs.length = some b := by
      rw [lookK_skip k (by omega) fun i hi b h => by rw [hm i b h]; exact hn i hi, show bs.length - k = x + 1 by omega, lookK, hbx]
      simp only
      rw [hm x b hbx, hx]
      rfl
    rw [eF]
    have r := (hb x b hbx).2
    refine .tup _ _ rfl fun j v y hv hy => ?_
    match j with
    | 0 => simp at hv hy; rw [← hv, ← hy]; exact r.mono hE
    | 1 => simp at hv hy; rw [← hv, ← hy]; exact .bool _
    | j + 2 => simp at hv
end Go.Proofs.YtncccgglillmoaaGreatDoor.Env
