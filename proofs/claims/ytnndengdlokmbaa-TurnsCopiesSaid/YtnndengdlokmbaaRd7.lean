/- Ready lists: the walks of Steps, Prio, and of Remove where there is nobody. Condition: the list lies. -/
import Derived.Test.YtnndengdlokmbaaRd6
namespace Go.Proofs.Ytnndengdlokmbaa
open Go.RowKit
set_option linter.unusedVariables false
set_option linter.all false
set_option maxRecDepth 20000

def prioE (v : Int) (e : Ending) : Prop := e = .returned (.tuple #[.int .i64 v, .bool (decide (v ≠ 0))])
theorem remove_arg (g : Nat) (t : Int) (hb : ¬ (0 ≤ t ∧ t < 16)) (w : World) (k0 : w.cell? ⟨g, 0, none⟩ = some (.bool true)) : Calls Try.prog 53 #[ptr g, .int .i64 t] w fun e w' => e = .returned (.int .i64 2) ∧ w' = w := by
  have TH := hide (there_any g true w k0)
  have TT := hide (thread_any t w)
  have d1 : (decide ((0 : Int) ≤ t) && decide (t < 16)) = false := by simp; omega
  unfold ptr at TH ⊢
  go_enter Try.func53, Try.ntmps53
  go_wp2_with (first
    | (go_at_call 62; refine TH.out.mono ?_; rintro e w' ⟨rfl, hw⟩; obtain rfl := hw.symm; clear hw)
    | (go_at_call 68; refine TT.out.mono ?_; rw [d1]; rintro e w' ⟨rfl, hw⟩; obtain rfl := hw.symm; clear hw))
  go_ret
  exact ⟨rfl, rfl⟩
theorem remove_none (g t : Nat) (ht : t < 16) (w : World) (k0 : w.cell? ⟨g, 0, none⟩ = some (.bool true)) (kp : w.cell? ⟨g, 98 + t, none⟩ = some (.int .i64 0)) : Calls Try.prog 53 #[ptr g, .int .i64 t] w fun e w' => e = .returned (.int .i64 6) ∧ w' = w := by
  have q1 : (0 : Int) ≤ (t : Int) := by omega
  have q2 : (t : Int) < 16 := by omega
  have TH := hide (there_any g true w k0)
  have TT := hide (thread_any t w)
  have d1 : (decide ((0 : Int) ≤ (t : Int)) && decide ((t : Int) < 16)) = true := by simp; omega
  unfold ptr at TH ⊢
  go_enter Try.func53, Try.ntmps53
  go_wp2_with (first
    | (go_at_call 62; refine TH.out.mono ?_; rintro e w' ⟨rfl, hw⟩; obtain rfl := hw.symm; clear hw)
    | (go_at_call 68; refine TT.out.mono ?_; rw [d1]; rintro e w' ⟨rfl, hw⟩; obtain rfl := hw.symm; clear hw))
  go_ret
  exact ⟨rfl, rfl⟩
end Go.Proofs.Ytnndengdlokmbaa
