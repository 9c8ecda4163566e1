/- Names, numbers, strings of up to sixty bytes: way 2. -/
import Derived.Test.YtiifjjcoepgobaaDoorLEnds1
set_option autoImplicit false
set_option maxRecDepth 100000
set_option linter.unusedVariables false
namespace Go.Proofs.YtiifjjcoepgobaaDoor.LexEnds
open Go.Ev Go.Proofs.YtiifjjcoepgobaaDoor.Env
theorem w2_0 : (List.range 4).all (fun i => go (.ofNat (i + 1)) (.ofNat 2)) = true := by kernel_rfl
theorem w2_1 : (List.range 4).all (fun i => go (.ofNat (i + 5)) (.ofNat 2)) = true := by kernel_rfl
theorem w2_2 : (List.range 4).all (fun i => go (.ofNat (i + 9)) (.ofNat 2)) = true := by kernel_rfl
theorem w2_3 : (List.range 4).all (fun i => go (.ofNat (i + 13)) (.ofNat 2)) = true := by kernel_rfl
theorem w2_4 : (List.range 4).all (fun i => go (.ofNat (i + 17)) (.ofNat 2)) = true := by kernel_rfl
theorem w2_5 : (List.range 4).all (fun i => go (.ofNat (i + 21)) (.ofNat 2)) = true := by kernel_rfl
theorem w2_6 : (List.range 4).all (fun i => go (.ofNat (i + 25)) (.ofNat 2)) = true := by kernel_rfl
theorem w2_7 : (List.range 4).all (fun i => go (.ofNat (i + 29)) (.ofNat 2)) = true := by kernel_rfl
theorem w2_8 : (List.range 4).all (fun i => go (.ofNat (i + 33)) (.ofNat 2)) = true := by kernel_rfl
theorem w2_9 : (List.range 4).all (fun i => go (.ofNat (i + 37)) (.ofNat 2)) = true := by kernel_rfl
theorem w2_10 : (List.range 4).all (fun i => go (.ofNat (i + 41)) (.ofNat 2)) = true := by kernel_rfl
theorem w2_11 : (List.range 4).all (fun i => go (.ofNat (i + 45)) (.ofNat 2)) = true := by kernel_rfl
theorem w2_12 : (List.range 4).all (fun i => go (.ofNat (i + 49)) (.ofNat 2)) = true := by kernel_rfl
theorem w2_13 : (List.range 4).all (fun i => go (.ofNat (i + 53)) (.ofNat 2)) = true := by kernel_rfl
theorem w2_14 : (List.range 4).all (fun i => go (.ofNat (i + 57)) (.ofNat 2)) = true := by kernel_rfl
theorem w2 (m : Nat) (h : m < 60) : go (.ofNat (m + 1)) (.ofNat 2) = true := by
  by_cases h0 : m < 4
  · have := List.all_eq_true.1 w2_0 (m - 0) (List.mem_range.2 (by omega))
    rwa [show m - 0 + 1 = m + 1 by omega] at this
  by_cases h1 : m < 8
  · have := List.all_eq_true.1 w2_1 (m - 4) (List.mem_range.2 (by omega))
    rwa [show m - 4 + 5 = m + 1 by omega] at this
  by_cases h2 : m < 12
  · have := List.all_eq_true.1 w2_2 (m - 8) (List.mem_range.2 (by omega))
    rwa [show m - 8 + 9 = m + 1 by omega] at this
  by_cases h3 : m < 16
  · have := List.all_eq_true.1 w2_3 (m - 12) (List.mem_range.2 (by omega))
    rwa [show m - 12 + 13 = m + 1 by omega] at this
  by_cases h4 : m < 20
  · have := List.all_eq_true.1 w2_4 (m - 16) (List.mem_range.2 (by omega))
    rwa [show m - 16 + 17 = m + 1 by omega] at this
  by_cases h5 : m < 24
  · have := List.all_eq_true.1 w2_5 (m - 20) (List.mem_range.2 (by omega))
    rwa [show m - 20 + 21 = m + 1 by omega] at this
  by_cases h6 : m < 28
  · have := List.all_eq_true.1 w2_6 (m - 24) (List.mem_range.2 (by omega))
    rwa [show m - 24 + 25 = m + 1 by omega] at this
  by_cases h7 : m < 32
  · have := List.all_eq_true.1 w2_7 (m - 28) (List.mem_range.2 (by omega))
    rwa [show m - 28 + 29 = m + 1 by omega] at this
  by_cases h8 : m < 36
  · have := List.all_eq_true.1 w2_8 (m - 32) (List.mem_range.2 (by omega))
    rwa [show m - 32 + 33 = m + 1 by omega] at this
  by_cases h9 : m < 40
  · have := List.all_eq_true.1 w2_9 (m - 36) (List.mem_range.2 (by omega))
    rwa [show m - 36 + 37 = m + 1 by omega] at this
  by_cases h10 : m < 44
  · have := List.all_eq_true.1 w2_10 (m - 40) (List.mem_range.2 (by omega))
    rwa [show m - 40 + 41 = m + 1 by omega] at this
  by_cases h11 : m < 48
  · have := List.all_eq_true.1 w2_11 (m - 44) (List.mem_range.2 (by omega))
    rwa [show m - 44 + 45 = m + 1 by omega] at this
  by_cases h12 : m < 52
  · have := List.all_eq_true.1 w2_12 (m - 48) (List.mem_range.2 (by omega))
    rwa [show m - 48 + 49 = m + 1 by omega] at this
  by_cases h13 : m < 56
  · have := List.all_eq_true.1 w2_13 (m - 52) (List.mem_range.2 (by omega))
    rwa [show m - 52 + 53 = m + 1 by omega] at this
  by_cases h14 : m < 60
  · have := List.all_eq_true.1 w2_14 (m - 56) (List.mem_range.2 (by omega))
    rwa [show m - 56 + 57 = m + 1 by omega] at this
  exact absurd h h14
end Go.Proofs.YtiifjjcoepgobaaDoor.LexEnds
