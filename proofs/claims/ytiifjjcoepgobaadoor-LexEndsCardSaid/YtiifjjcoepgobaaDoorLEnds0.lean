/- Names, numbers, strings of up to sixty bytes: way 0. -/
import Derived.Test.YtiifjjcoepgobaaDoorLKnown
set_option autoImplicit false
set_option maxRecDepth 100000
set_option linter.unusedVariables false
namespace Go.Proofs.YtiifjjcoepgobaaDoor.LexEnds
open Go.Ev Go.Proofs.YtiifjjcoepgobaaDoor.Env
noncomputable def go (n y : Int) : Bool := resIs true (evFn env2 400 5 [.int .i64 n, .int .i64 y] ⟨.e, 0⟩)
theorem w0_0 : (List.range 4).all (fun i => go (.ofNat (i + 1)) (.ofNat 0)) = true := by kernel_rfl
theorem w0_1 : (List.range 4).all (fun i => go (.ofNat (i + 5)) (.ofNat 0)) = true := by kernel_rfl
theorem w0_2 : (List.range 4).all (fun i => go (.ofNat (i + 9)) (.ofNat 0)) = true := by kernel_rfl
theorem w0_3 : (List.range 4).all (fun i => go (.ofNat (i + 13)) (.ofNat 0)) = true := by kernel_rfl
theorem w0_4 : (List.range 4).all (fun i => go (.ofNat (i + 17)) (.ofNat 0)) = true := by kernel_rfl
theorem w0_5 : (List.range 4).all (fun i => go (.ofNat (i + 21)) (.ofNat 0)) = true := by kernel_rfl
theorem w0_6 : (List.range 4).all (fun i => go (.ofNat (i + 25)) (.ofNat 0)) = true := by kernel_rfl
theorem w0_7 : (List.range 4).all (fun i => go (.ofNat (i + 29)) (.ofNat 0)) = true := by kernel_rfl
theorem w0_8 : (List.range 4).all (fun i => go (.ofNat (i + 33)) (.ofNat 0)) = true := by kernel_rfl
theorem w0_9 : (List.range 4).all (fun i => go (.ofNat (i + 37)) (.ofNat 0)) = true := by kernel_rfl
theorem w0_10 : (List.range 4).all (fun i => go (.ofNat (i + 41)) (.ofNat 0)) = true := by kernel_rfl
theorem w0_11 : (List.range 4).all (fun i => go (.ofNat (i + 45)) (.ofNat 0)) = true := by kernel_rfl
theorem w0_12 : (List.range 4).all (fun i => go (.ofNat (i + 49)) (.ofNat 0)) = true := by kernel_rfl
theorem w0_13 : (List.range 4).all (fun i => go (.ofNat (i + 53)) (.ofNat 0)) = true := by kernel_rfl
theorem w0_14 : (List.range 4).all (fun i => go (.ofNat (i + 57)) (.ofNat 0)) = true := by kernel_rfl
theorem w0 (m : Nat) (h : m < 60) : go (.ofNat (m + 1)) (.ofNat 0) = true := by
  by_cases h0 : m < 4
  · have := List.all_eq_true.1 w0_0 (m - 0) (List.mem_range.2 (by omega))
    rwa [show m - 0 + 1 = m + 1 by omega] at this
  by_cases h1 : m < 8
  · have := List.all_eq_true.1 w0_1 (m - 4) (List.mem_range.2 (by omega))
    rwa [show m - 4 + 5 = m + 1 by omega] at this
  by_cases h2 : m < 12
  · have := List.all_eq_true.1 w0_2 (m - 8) (List.mem_range.2 (by omega))
    rwa [show m - 8 + 9 = m + 1 by omega] at this
  by_cases h3 : m < 16
  · have := List.all_eq_true.1 w0_3 (m - 12) (List.mem_range.2 (by omega))
    rwa [show m - 12 + 13 = m + 1 by omega] at this
  by_cases h4 : m < 20
  · have := List.all_eq_true.1 w0_4 (m - 16) (List.mem_range.2 (by omega))
    rwa [show m - 16 + 17 = m + 1 by omega] at this
  by_cases h5 : m < 24
  · have := List.all_eq_true.1 w0_5 (m - 20) (List.mem_range.2 (by omega))
    rwa [show m - 20 + 21 = m + 1 by omega] at this
  by_cases h6 : m < 28
  · have := List.all_eq_true.1 w0_6 (m - 24) (List.mem_range.2 (by omega))
    rwa [show m - 24 + 25 = m + 1 by omega] at this
  by_cases h7 : m < 32
  · have := List.all_eq_true.1 w0_7 (m - 28) (List.mem_range.2 (by omega))
    rwa [show m - 28 + 29 = m + 1 by omega] at this
  by_cases h8 : m < 36
  · have := List.all_eq_true.1 w0_8 (m - 32) (List.mem_range.2 (by omega))
    rwa [show m - 32 + 33 = m + 1 by omega] at this
  by_cases h9 : m < 40
  · have := List.all_eq_true.1 w0_9 (m - 36) (List.mem_range.2 (by omega))
    rwa [show m - 36 + 37 = m + 1 by omega] at this
  by_cases h10 : m < 44
  · have := List.all_eq_true.1 w0_10 (m - 40) (List.mem_range.2 (by omega))
    rwa [show m - 40 + 41 = m + 1 by omega] at this
  by_cases h11 : m < 48
  · have := List.all_eq_true.1 w0_11 (m - 44) (List.mem_range.2 (by omega))
    rwa [show m - 44 + 45 = m + 1 by omega] at this
  by_cases h12 : m < 52
  · have := List.all_eq_true.1 w0_12 (m - 48) (List.mem_range.2 (by omega))
    rwa [show m - 48 + 49 = m + 1 by omega] at this
  by_cases h13 : m < 56
  · have := List.all_eq_true.1 w0_13 (m - 52) (List.mem_range.2 (by omega))
    rwa [show m - 52 + 53 = m + 1 by omega] at this
  by_cases h14 : m < 60
  · have := List.all_eq_true.1 w0_14 (m - 56) (List.mem_range.2 (by omega))
    rwa [show m - 56 + 57 = m + 1 by omega] at this
  exact absurd h h14
end Go.Proofs.YtiifjjcoepgobaaDoor.LexEnds
