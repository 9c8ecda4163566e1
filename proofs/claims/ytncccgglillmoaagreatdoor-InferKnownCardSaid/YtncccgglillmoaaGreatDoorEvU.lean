/- From a run of the machine to a row's statement: the frame of a law that answers one bool. -/
import Derived.Test.YtncccgglillmoaaGreatDoorEvT
import Derived.ProofKit
import Derived.OpenShut
set_option autoImplicit false
set_option linter.unusedSectionVars false
set_option linter.unusedVariables false
set_option linter.unusedSimpArgs false
namespace Go.Ev
variable [MT]
variable [Inhabited KA0]
open Go.ChangeShapes Go.WideShapes Go.ChangeAt Go.RowKit

/-- The machine's world at the beginning of a law's call. -/
def G0 (w : World) : Gh := ⟨fun _ => none, fun _ => none, fun _ => none, fun _ => none, w.heap.size⟩
theorem inv0 (w : World) (hk : ∀ p ∈ (default : KA0).ka, p.2 w.heap[p.1]? ∧ p.1 < w.heap.size) : Inv (G0 w) w ⟨.e, 0⟩ where
  wf := fun id o h => by cases id <;> simp [T.get] at h
  frb := fun b k h => by simp [G0] at h
  bas := Nat.le_refl _
  obj := fun id b h => by simp [G0] at h
  chn := fun id n v h => by simp [G0] at h
  ka := fun p hp => ⟨(hk p hp).1, (hk p hp).2, rfl⟩

theorem Ext.below {w w' : World} {h h' : H} {G' : Gh} (E : Ext (G0 w) w h G' w' h') : Below w.heap.size w w' :=
  ⟨E.os, E.tape, E.output, E.size, fun k hk => (E.still k hk rfl).1⟩

section
variable {H' : Type} {enc : TypeId × Value → H'} {P : Program}

theorem trodAll_stays (hl : laidOutB P = true) {W W' : World} {sp : Nat → Bool} (hb : Below W.heap.size W W') : ∀ {ts : List TypeId} {vs : List Value} {ds : List (DataW H')} {ps : List MemPlace},
    (∀ t ∈ ts, P.readableRec t = true ∧ t < P.types.size) → (∀ p ∈ ps, p.block < W.heap.size) → (∀ p ∈ ps, sp p.block = true) → DataW.TrodAll enc P W 0 (fun _ => true) true ts vs ds ps → DataW.TrodAll enc P W' 0 sp true ts vs ds ps
  | [], [], [], ps, _, _, _, h => h
  | t :: ts, v :: vs, d :: ds, ps, hr, hlt, hs, h => by
    obtain ⟨p, q, h1, h2, rfl⟩ := h
    refine ⟨p, q, ?_, trodAll_stays hl hb (fun t ht => hr t (List.mem_cons_of_mem _ ht)) (fun x hx => hlt x (List.mem_append_right _ hx)) (fun x hx => hs x (List.mem_append_right _ hx)) h2, rfl⟩
    exact WideElems.Trod_stays hl (hr t (List.mem_cons_self ..)).1 (hr t (List.mem_cons_self ..)).2 h1 (fun x hx => hb.same (hlt x (List.mem_append_left _ hx))) (fun x hx => hs x (List.mem_append_left _ hx))
  | [], [], _ :: _, _, _, _, _, h => h.elim
  | [], _ :: _, _, _, _, _, _, h => by cases h
  | _ :: _, [], _, _, _, _, _, h => by cases h
  | _ :: _, _ :: _, [], _, _, _, _, h => by cases h

theorem post_of_below {f : Func} {s : ChangeSpec} {apart fresh handsOn again : Bool} {W W' : World} {args : Array Value} {ds gs : List (DataW H')} {before : List MemPlace} {rt : TypeId}
    (hl : laidOutB P = true) (hr : ∀ t ∈ f.params.toList, P.readableRec t = true ∧ t < P.types.size) (hv : s.vars = []) (hres : f.resultTypes = #[rt]) (hrt : P.underlying rt = some .bool)
    (hW : DataW.Whole enc P f.params.toList s.vars apart W args.toList ds gs before) (h1 : (s.fn H' (ds ++ gs)).results = [.lit (.bool true)]) (h2 : (s.fn H' (ds ++ gs)).args = ds) (h3 : (s.fn H' (ds ++ gs)).vars = [])
    (hb : Below W.heap.size W W') : s.post enc P f apart fresh handsOn again W args (.bool true) W' := by
  have hlt := hW.lt
  have hW0 := hW
  obtain ⟨p, q, hA, hV, rfl, hz, hn⟩ := hW
  rw [hv] at hV
  have hq : gs = [] ∧ q = [] := by
    cases gs with
    | nil => exact ⟨rfl, hV⟩
    | cons _ _ => exact hV.elim
  obtain ⟨rfl, rfl⟩ := hq
  simp only [List.append_nil] at *
  have hR : ∀ (b : Nat) (sp : Nat → Bool) (hd : Bool), DataW.TrodAll enc P W' b sp hd f.resultTypes.toList ((Value.bool true).resultList f.resultTypes.size) (s.fn H' ds).results [] := by
    intro b sp hd
    rw [h1, hres]
    exact trodAll_cons_mk (shut_bool hrt _) trodAll_mk0
  have hArg : ∀ sp : Nat → Bool, (∀ x ∈ p, sp x.block = true) → DataW.TrodAll enc P W' 0 sp true f.params.toList args.toList ds p := fun sp hs => trodAll_stays hl hb hr hlt hs hA
  refine ⟨ds, [], p, [], p, [], by simpa using hW0, by simpa using hR _ _ _, ?_, ?_, ?_, fun _ => ⟨?_, ?_⟩⟩
  · simp only [List.append_nil, h2]
    exact hArg _ (fun x hx => by simpa using hlt x hx)
  · simp only [List.append_nil, hv, h3]
    rfl
  · exact World.keptBut_mono (fun x hx => ⟨hx, .inr (.inl hx)⟩) (hb.frame (· ∈ p))
  · exact ok_one hres rfl (okWide_bool_mk hrt true)
  · refine ⟨_, [], p, ⟨[] ++ p, [], trodAll_append (hArg (fun _ => true) (fun _ _ => rfl)) (hR _ _ _), by rw [hv]; rfl, by simp, ?_, ?_⟩, fun x hx _ => hx⟩
    · intro b off hp
      rw [hb.frozen (hlt _ hp)]
      exact hz b off hp
    · exact hn
end
end Go.Ev
