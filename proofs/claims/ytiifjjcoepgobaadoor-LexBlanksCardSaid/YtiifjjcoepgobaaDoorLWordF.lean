/- The words and the signs; is a text among others. -/
import Derived.Test.YtiifjjcoepgobaaDoorLHas
set_option autoImplicit false
set_option maxRecDepth 100000
set_option linter.unusedSimpArgs false
set_option linter.unusedVariables false
namespace Go.Proofs.YtiifjjcoepgobaaDoor.Env
open Go.Ev

def wordsL : List (List Nat) := [[108, 101, 116], [114, 101, 99], [105, 110], [102, 117, 110], [105, 102], [116, 104, 101, 110], [101, 108, 115, 101], [109, 97, 116, 99, 104], [119, 105, 116, 104], [116, 114, 121], [114, 97, 105, 115, 101], [116, 114, 117, 101], [102, 97, 108, 115, 101], [102, 115, 116], [115, 110, 100], [114, 101, 102], [99, 101, 108, 108], [116, 97, 103], [108, 105, 110, 107, 115], [108, 105, 110, 107], [115, 105, 122, 101], [112, 114, 105, 110, 116]]
def signsL : List (List Nat) := [[58, 61], [58, 58], [45, 62], [40], [41], [91], [93], [44], [59], [61], [60], [43], [45], [42], [94], [33], [124]]
def strsOf : List AV → Option (List (List Nat))
  | [] => some []
  | .str s :: l => match strsOf l with
    | none => none
    | some m => some (s :: m)
  | _ :: _ => none
theorem strsOf_map : ∀ ws : List (List Nat), strsOf (ws.map .str) = some ws
  | [] => rfl
  | w :: ws => by simp [strsOf, strsOf_map ws]
theorem strsOf_some : ∀ {els : List AV} {ws : List (List Nat)}, strsOf els = some ws → els = ws.map .str
  | [], ws, h => by simp [strsOf] at h; subst h; rfl
  | x :: l, ws, h => by
    cases x <;> simp only [strsOf, reduceCtorEq] at h
    rename_i s
    cases hl : strsOf l with
    | none => rw [hl] at h; simp at h
    | some m =>
      rw [hl] at h
      simp only [Option.some.injEq] at h
      subst h
      rw [strsOf_some hl]
      rfl
def small62 (n : Nat) : Bool := Nat.blt n 4611686018427387904
def p30 : List AV → Option AV
  | [.str s, .int .i64 (.ofNat a), .fn f [] []] => match predOf f with
    | none => none
    | some q => bif small62 s.length && Nat.ble a s.length then some (.int .i64 ↑(cnt q (s.drop a))) else none
  | _ => none
def p40 : List AV → Option AV
  | [.sl _ els, .str v] => match strsOf els with
    | none => none
    | some ws => bif small62 ws.length then some (.int .i64 (idxF v ws 0)) else none
  | _ => none
theorem p30_ok : PrimOk Tryd.prog 30 (primPure p30) := by
  refine primPure_ok env3_ok Tryd.func30 (by kernel_rfl) (by kernel_rfl) fun args v hv => ?_
  unfold p30 at hv
  split at hv
  · rename_i s a f
    cases hq : predOf f with
    | none => rw [hq] at hv; simp at hv
    | some q =>
      rw [hq] at hv
      simp only at hv
      cases hc : (small62 s.length && Nat.ble a s.length) with
      | false => rw [hc] at hv; simp at hv
      | true =>
        rw [hc] at hv
        simp only [cond_true, Option.some.injEq] at hv
        subst hv
        simp only [Bool.and_eq_true] at hc
        exact ⟨_, _, _, run30 s a f hq _ (blt_nat.1 hc.1) (Nat.le_of_ble_eq_true hc.2), rfl, rfl⟩
  · simp at hv
theorem p40_ok : PrimOk Tryd.prog 40 (primPure p40) := by
  refine primPure_ok env3_ok Tryd.func40 (by kernel_rfl) (by kernel_rfl) fun args v hv => ?_
  unfold p40 at hv
  split at hv
  · rename_i o els u
    cases hq : strsOf els with
    | none => rw [hq] at hv; simp at hv
    | some ws =>
      rw [hq] at hv
      simp only at hv
      cases hc : small62 ws.length with
      | false => rw [hc] at hv; simp at hv
      | true =>
        rw [hc] at hv
        simp only [cond_true, Option.some.injEq] at hv
        subst hv
        have := strsOf_some hq
        subst this
        exact ⟨_, _, _, run40 0 o ws u _ (blt_nat.1 hc), rfl, rfl⟩
  · simp at hv
end Go.Proofs.YtiifjjcoepgobaaDoor.Env
