/- Code: three flags, three numbers. No condition. -/
import Derived.Test.YteblhklclcjonaaGreatDoorCdH
import Derived.BigRegion
namespace Go.Proofs.YteblhklclcjonaaGreatDoor
open Go.RowKit
set_option linter.unusedVariables false
set_option linter.all false
set_option maxRecDepth 20000

def nB (d a b : Bool) : Nat → Bool
  | 0 => d
  | 1 => a
  | _ => b
def lB (d a b : Int) : Nat → Int
  | 0 => d
  | 1 => a
  | _ => b
theorem nB_get (d a b : Bool) : ∀ q, q < 3 → (#[.bool d, .bool a, .bool b] : Array Value)[q]? = some (.bool (nB d a b q)) := by
  intro q hq
  rcases (by omega : q = 0 ∨ q = 1 ∨ q = 2) with h | h | h
  all_goals (subst h; rfl)
theorem lB_get (d a b : Int) : ∀ q, q < 3 → (#[.int .i64 d, .int .i64 a, .int .i64 b] : Array Value)[q]? = some (.int .i64 (lB d a b q)) := by
  intro q hq
  rcases (by omega : q = 0 ∨ q = 1 ∨ q = 2) with h | h | h
  all_goals (subst h; rfl)
end Go.Proofs.YteblhklclcjonaaGreatDoor
