/- Script: which events may be. No condition. -/
import Derived.Test.YteblhklclcjonaaGreatDoorCd4
import Derived.Test.YteblhklclcjonaaGreatDoorSc5
namespace Go.Proofs.YteblhklclcjonaaGreatDoor
open Go.RowKit
set_option linter.unusedVariables false
set_option linter.all false
set_option maxRecDepth 20000

def evV (e : Ev) : Array Value := #[.int .i64 e.kind, .int .i64 e.num]
theorem mayE_1 (m : Int) : mayE ⟨1, m⟩ = (m == 0) := by unfold mayE; rw [Bool.eq_iff_iff]; simp
theorem mayE_2 (m : Int) : mayE ⟨2, m⟩ = (m == 0) := by unfold mayE; rw [Bool.eq_iff_iff]; simp
theorem mayE_3 (m : Int) : mayE ⟨3, m⟩ = (decide (0 ≤ m) && decide (m ≤ 7)) := by unfold mayE; rw [Bool.eq_iff_iff]; simp
theorem mayE_no {k : Int} (m : Int) (h1 : k ≠ 1) (h2 : k ≠ 2) (h3 : k ≠ 3) : mayE ⟨k, m⟩ = false := by unfold mayE; simp [h1, h2, h3]
theorem may_ev (k m : Int) (w : World) : Calls Tryz.prog 13 #[.agg #[.int .i64 k, .int .i64 m]] w fun e w' => e = .returned (.bool (mayE ⟨k, m⟩)) ∧ Only [] w w' := by
  have o := (Only.refl [] w).alloc (.cells #[.int .i64 k, .int .i64 m] 24)
  by_cases k1 : k = 1
  · subst k1
    rw [mayE_1]
    go_enter Tryz.func13, Tryz.ntmps13
    go_wp2_with fail
    go_ret
    exact ⟨rfl, o⟩
  · by_cases k2 : k = 2
    · subst k2
      rw [mayE_2]
      go_enter Tryz.func13, Tryz.ntmps13
      go_wp2_with fail
      go_ret
      exact ⟨rfl, o⟩
    · by_cases k3 : k = 3
      · subst k3
        rw [mayE_3]
        go_enter Tryz.func13, Tryz.ntmps13
        go_wp2_with fail
        all_goals go_ret
        all_goals (refine ⟨?_, o⟩; first | (simp [*]; done) | (simp [*]; omega) | rfl)
      · rw [mayE_no m k1 k2 k3]
        have b1 : (k == 1) = false := by simpa using k1
        have b2 : (k == 2) = false := by simpa using k2
        have b3 : (k == 3) = false := by simpa using k3
        go_enter Tryz.func13, Tryz.ntmps13
        go_wp2_with fail
        go_ret
        exact ⟨rfl, o⟩
end Go.Proofs.YteblhklclcjonaaGreatDoor
