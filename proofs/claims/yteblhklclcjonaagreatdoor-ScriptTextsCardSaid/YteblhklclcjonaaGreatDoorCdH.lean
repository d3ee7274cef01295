/- Code, the document's: what an op names. No condition. -/
import Derived.Test.YteblhklclcjonaaGreatDoorCd4
namespace Go.Proofs.YteblhklclcjonaaGreatDoor
open Go.RowKit
set_option linter.unusedVariables false
set_option linter.all false
set_option maxRecDepth 20000

def namV (k : Nat) : Value := .tuple #[.agg #[.bool (shp k).d, .bool (shp k).a, .bool (shp k).b], .int .i64 (shp k).imm, .bool true]
set_option maxHeartbeats 8000000 in
theorem named_ok (k : Nat) (hk : k < 9) (w : World) : Calls Tryz.prog 74 #[.int .i64 k] w fun e w' => e = .returned (namV k) ∧ Only [] w w' := by
  rcases (by omega : k = 0 ∨ k = 1 ∨ k = 2 ∨ k = 3 ∨ k = 4 ∨ k = 5 ∨ k = 6 ∨ k = 7 ∨ k = 8) with h | h | h | h | h | h | h | h | h
  all_goals (
    subst h
    simp only [Int.cast_ofNat_Int]
    go_enter Tryz.func74, Tryz.ntmps74
    go_wp2_with fail
    refine bodyPost_ret (v := namV _) ?_ rfl ⟨rfl, (by repeat (first | exact Only.refl _ _ | refine Only.alloc ?_ _))⟩
    simp [results, Tryz.results74, go_sem, namV, shp])
set_option maxHeartbeats 4000000 in
theorem named_bad (o : Int) (ho : o < 0 ∨ 8 < o) (w : World) : Calls Tryz.prog 74 #[.int .i64 o] w fun e w' => e = .returned (.tuple #[.agg #[.bool false, .bool false, .bool false], .int .i64 0, .bool false]) ∧ Only [] w w' := by
  have d0 : (o == 0) = false := by simp; omega
  have d1 : (o == 1) = false := by simp; omega
  have d2 : (o == 2) = false := by simp; omega
  have d3 : (o == 3) = false := by simp; omega
  have d4 : (o == 4) = false := by simp; omega
  have d5 : (o == 5) = false := by simp; omega
  have d6 : (o == 6) = false := by simp; omega
  have d7 : (o == 7) = false := by simp; omega
  have d8 : (o == 8) = false := by simp; omega
  go_enter Tryz.func74, Tryz.ntmps74
  go_wp2_with fail
  refine bodyPost_ret (v := .tuple #[.agg #[.bool false, .bool false, .bool false], .int .i64 0, .bool false]) ?_ rfl ⟨rfl, (by repeat (first | exact Only.refl _ _ | refine Only.alloc ?_ _))⟩
  simp [results, Tryz.results74, go_sem]
end Go.Proofs.YteblhklclcjonaaGreatDoor
