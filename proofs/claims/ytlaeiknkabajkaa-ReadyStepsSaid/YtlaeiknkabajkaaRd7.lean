/- Ready lists: the walks of Steps, Prio, and of Remove where there is nobody. Condition: the list lies. -/
import Derived.Test.YtlaeiknkabajkaaRd6
namespace Go.Proofs.Ytlaeiknkabajkaa
open Go.RowKit
set_option linter.unusedVariables false
set_option linter.all false
set_option maxRecDepth 20000

theorem steps_any (g : Nat) (st : Int) (w : World) (k0 : w.cell? ⟨g, 0, none⟩ = some (.bool true)) (k1 : w.cell? ⟨g, 114, none⟩ = some (.int .i64 st)) : Calls Try.prog 17 #[ptr g] w fun e w' => e = .returned (.int .i64 st) ∧ w' = w := by
  have TH := hide (there_any g true w k0)
  unfold ptr at TH ⊢
  go_enter Try.func17, Try.ntmps17
  go_wp2_with (first
    | (go_at_call 23; refine TH.out.mono ?_; rintro e w' ⟨rfl, hw⟩; obtain rfl := hw.symm; clear hw))
  go_ret
  exact ⟨rfl, rfl⟩
theorem num_any (k : Int) (w : World) : Calls Try.prog 15 #[.int .i64 k] w fun e w' => e = .returned (.int .i64 k) ∧ w' = w := by
  go_enter Try.func15, Try.ntmps15
  go_wp2_with fail
  go_ret
  exact ⟨rfl, rfl⟩
def prioE (v : Int) (e : Ending) : Prop := e = .returned (.tuple #[.int .i64 v, .bool (decide (v ≠ 0))])
theorem prio_in (g t : Nat) (ht : t < 16) (v : Int) (w : World) (k0 : w.cell? ⟨g, 0, none⟩ = some (.bool true)) (kp : w.cell? ⟨g, 98 + t, none⟩ = some (.int .i64 v)) : Calls Try.prog 14 #[ptr g, .int .i64 t] w fun e w' => prioE v e ∧ w' = w := by
  have q1 : (0 : Int) ≤ (t : Int) := by omega
  have q2 : (t : Int) < 16 := by omega
  have TH := hide (there_any g true w k0)
  have TT := hide (thread_any t w)
  have d1 : (decide ((0 : Int) ≤ (t : Int)) && decide ((t : Int) < 16)) = true := by simp; omega
  unfold ptr at TH ⊢
  by_cases hv : v = 0
  · subst hv
    go_enter Try.func14, Try.ntmps14
    go_wp2_with (first
      | (go_at_call 23; refine TH.out.mono ?_; rintro e w' ⟨rfl, hw⟩; obtain rfl := hw.symm; clear hw)
      | (go_at_call 32; refine TT.out.mono ?_; rw [d1]; rintro e w' ⟨rfl, hw⟩; obtain rfl := hw.symm; clear hw))
    exact bodyPost_ret (v := .tuple #[.int .i64 0, .bool false]) (by simp [results, Try.results14, go_sem]) rfl ⟨rfl, rfl⟩
  · have gv : (v == 0) = false := by simp [hv]
    have dv : decide (v ≠ 0) = true := by simp [hv]
    go_enter Try.func14, Try.ntmps14
    go_wp2_with (first
      | (go_at_call 23; refine TH.out.mono ?_; rintro e w' ⟨rfl, hw⟩; obtain rfl := hw.symm; clear hw)
      | (go_at_call 32; refine TT.out.mono ?_; rw [d1]; rintro e w' ⟨rfl, hw⟩; obtain rfl := hw.symm; clear hw))
    exact bodyPost_ret (v := .tuple #[.int .i64 v, .bool true]) (by simp [results, Try.results14, go_sem]) rfl ⟨by unfold prioE; rw [dv], rfl⟩
theorem prio_out (g : Nat) (t : Int) (hb : ¬ (0 ≤ t ∧ t < 16)) (w : World) (k0 : w.cell? ⟨g, 0, none⟩ = some (.bool true)) : Calls Try.prog 14 #[ptr g, .int .i64 t] w fun e w' => prioE 0 e ∧ w' = w := by
  have TH := hide (there_any g true w k0)
  have TT := hide (thread_any t w)
  have d1 : (decide ((0 : Int) ≤ t) && decide (t < 16)) = false := by simp; omega
  unfold ptr at TH ⊢
  go_enter Try.func14, Try.ntmps14
  go_wp2_with (first
    | (go_at_call 23; refine TH.out.mono ?_; rintro e w' ⟨rfl, hw⟩; obtain rfl := hw.symm; clear hw)
    | (go_at_call 32; refine TT.out.mono ?_; rw [d1]; rintro e w' ⟨rfl, hw⟩; obtain rfl := hw.symm; clear hw))
  exact bodyPost_ret (v := .tuple #[.int .i64 0, .bool false]) (by simp [results, Try.results14, go_sem]) rfl ⟨rfl, rfl⟩
theorem remove_arg (g : Nat) (t : Int) (hb : ¬ (0 ≤ t ∧ t < 16)) (w : World) (k0 : w.cell? ⟨g, 0, none⟩ = some (.bool true)) : Calls Try.prog 16 #[ptr g, .int .i64 t] w fun e w' => e = .returned (.int .i64 2) ∧ w' = w := by
  have TH := hide (there_any g true w k0)
  have TT := hide (thread_any t w)
  have d1 : (decide ((0 : Int) ≤ t) && decide (t < 16)) = false := by simp; omega
  unfold ptr at TH ⊢
  go_enter Try.func16, Try.ntmps16
  go_wp2_with (first
    | (go_at_call 23; refine TH.out.mono ?_; rintro e w' ⟨rfl, hw⟩; obtain rfl := hw.symm; clear hw)
    | (go_at_call 32; refine TT.out.mono ?_; rw [d1]; rintro e w' ⟨rfl, hw⟩; obtain rfl := hw.symm; clear hw))
  go_ret
  exact ⟨rfl, rfl⟩
theorem remove_none (g t : Nat) (ht : t < 16) (w : World) (k0 : w.cell? ⟨g, 0, none⟩ = some (.bool true)) (kp : w.cell? ⟨g, 98 + t, none⟩ = some (.int .i64 0)) : Calls Try.prog 16 #[ptr g, .int .i64 t] w fun e w' => e = .returned (.int .i64 6) ∧ w' = w := by
  have q1 : (0 : Int) ≤ (t : Int) := by omega
  have q2 : (t : Int) < 16 := by omega
  have TH := hide (there_any g true w k0)
  have TT := hide (thread_any t w)
  have d1 : (decide ((0 : Int) ≤ (t : Int)) && decide ((t : Int) < 16)) = true := by simp; omega
  unfold ptr at TH ⊢
  go_enter Try.func16, Try.ntmps16
  go_wp2_with (first
    | (go_at_call 23; refine TH.out.mono ?_; rintro e w' ⟨rfl, hw⟩; obtain rfl := hw.symm; clear hw)
    | (go_at_call 32; refine TT.out.mono ?_; rw [d1]; rintro e w' ⟨rfl, hw⟩; obtain rfl := hw.symm; clear hw))
  go_ret
  exact ⟨rfl, rfl⟩
end Go.Proofs.Ytlaeiknkabajkaa
