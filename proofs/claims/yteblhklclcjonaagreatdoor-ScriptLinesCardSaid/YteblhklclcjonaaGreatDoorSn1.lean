/- Script: the chapter's rows, as plain values. No condition. -/
import Derived.Test.YteblhklclcjonaaGreatDoorSr5
namespace Go.Proofs.YteblhklclcjonaaGreatDoor
open Go.RowKit
set_option linter.unusedVariables false
set_option linter.all false
set_option maxRecDepth 100000
def kt1 : List UInt8 := [106, 111, 98, 32, 49, 32, 49, 32, 49, 32, 49, 32, 50, 53, 54, 32, 53, 10, 112, 114, 111, 103, 114, 97, 109, 10, 101, 110, 100, 10, 116, 101, 120, 116, 32, 37, 10, 114, 117, 110, 32, 50, 10]
def kt2 : List UInt8 := [106, 111, 98, 32, 49, 32, 49, 32, 49, 32, 49, 32, 50, 53, 54, 32, 53, 10, 112, 114, 111, 103, 114, 97, 109, 10, 106, 117, 109, 112, 32, 50, 10, 116, 101, 120, 116, 32, 37, 10, 114, 117, 110, 32, 50, 10]
def kt3 : List UInt8 := [106, 111, 98, 32, 49, 32, 49, 32, 49, 32, 49, 32, 50, 53, 54, 32, 53, 10, 112, 114, 111, 103, 114, 97, 109, 10, 101, 110, 100, 10, 116, 101, 120, 116, 32, 37, 10, 114, 117, 110, 32, 50, 10, 114, 117, 110, 32, 50, 10]
def kt4 : List UInt8 := [106, 111, 98, 32, 49, 32, 49, 32, 49, 32, 49, 32, 50, 53, 54, 32, 53, 10, 112, 114, 111, 103, 114, 97, 109, 10, 101, 110, 100, 10, 116, 101, 120, 116, 32, 37, 10, 114, 117, 110, 32, 48, 10]
def kt5 : List UInt8 := [106, 111, 98, 32, 49, 32, 49, 32, 49, 32, 49, 32, 50, 53, 54, 32, 53, 10]
def outB : Option Sc × Nat × Int → Option (Nat × Nat × Nat) × Nat × Int := fun x => (x.1.map fun c => (c.ps.length, c.ts.length, c.es.length), x.2.1, x.2.2)
theorem k1_is : outB (parF kt1) = (some (1, 1, 2), 0, 0) := by kernel_rfl
theorem k2_is : outB (parF kt2) = (none, 2, 4) := by kernel_rfl
theorem k3_is : outB (parF kt3) = (none, 5, 4) := by kernel_rfl
theorem k4_is : outB (parF kt4) = (none, 4, 4) := by kernel_rfl
theorem k5_is : outB (parF kt5) = (none, 1, 4) := by kernel_rfl
end Go.Proofs.YteblhklclcjonaaGreatDoor
