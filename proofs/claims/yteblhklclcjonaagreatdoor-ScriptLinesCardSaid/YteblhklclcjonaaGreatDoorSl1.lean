/- Script: the walk of ScriptLines. Condition: Env, the events lie. -/
import Derived.Test.YteblhklclcjonaaGreatDoorSn2
import Derived.Test.YteblhklclcjonaaGreatDoorSm5
import Derived.Test.YteblhklclcjonaaGreatDoorSe5
import Derived.BigRegion
namespace Go.Proofs.YteblhklclcjonaaGreatDoor
open Go.RowKit
set_option linter.unusedVariables false
set_option linter.all false
set_option maxRecDepth 20000

set_option maxHeartbeats 8000000 in
theorem slines_over (k m n : Int) (s : List UInt8) (A : Option Addr) (nl c : Nat) (w : World) (he : Env w) (hw4 : 4 ≤ w.heap.size) (h : 9000 < s.length ∨ 9000 < nl) : Calls Tryz.prog 3 #[.agg #[.int .i64 k, .int .i64 m, .int .i64 n], .string (bs s), .slice A nl c] w fun e w' => e = .returned (.bool true) ∧ Only [] w w' := by
  have HE := hide he
  have hz : (bs s).size = s.length := bs_size s
  have O0 := hide (((Only.refl [] w).alloc (.cells #[.int .i64 k, .int .i64 m, .int .i64 n] 26)).alloc (.cells #[.bool false] 4))
  have B6 := hide (Blk.new (w.alloc (.cells #[.int .i64 k, .int .i64 m, .int .i64 n] 26)) 4 #[.bool false])
  simp only [World.size_alloc] at B6
  obtain ⟨X, hX⟩ : ∃ X, w.heap.size = X := ⟨_, rfl⟩
  rw [hX] at B6
  have KN := hide (fun W (o : Only [] w W) => sknown_any W (HE.out.only o) (by have := o.size; omega))
  clear he
  by_cases h1 : 9000 < s.length
  · have d1 : decide ((9000 : Int) < (s.length : Int)) = true := decide_eq_true (by omega)
    have d2 : decide (9000 < s.length) = true := decide_eq_true (by omega)
    have d3 : (9000 : Int) < (s.length : Int) := by omega
    clear h h1
    refine (callsIn_wide (n := 8)).1 ?_
    refine callsIn_of_wp_marks Tryz.func3 rfl trivial ?_ rfl
    simp only [Tryz.ntmps3, List.size_toArray, List.length_cons, List.length_nil, Nat.reduceAdd, Nat.reduceSub, Array.replicate_succ, Array.replicate_zero, List.push_toArray, List.append_toArray, List.nil_append, List.cons_append]
    refine wpIn_wide.2 ?_
    go_wp2_with (first
      | (go_at_call 7; (with_reducible refine (KN.out _ O0.out).mono ?_); rintro e w1 ⟨rfl, o1⟩; have OC := hide (O0.out.trans0 o1); have BB := B6.out.only o1 (by simp); have BH := hide BB; have x0 := BB.cell 0; have f0 := BB.frozen 0; clear o1 BB))
    have y0 := (BH.out.set_ 0 (.bool true)).cell 0
    refine ⟨.bool true, ?_, rfl, OC.out.setCell (p := ⟨X + 1, 0, none⟩) (.inr (by simp only; omega)) _⟩
    simp only [results, Tryz.results3]
    simp [go_sem, y0]
  · have h2 : 9000 < nl := by omega
    have d1 : decide ((9000 : Int) < (s.length : Int)) = false := decide_eq_false (by omega)
    have d2 : decide (9000 < s.length) = false := decide_eq_false (by omega)
    have d3 : ¬ (9000 : Int) < (s.length : Int) := by omega
    have e1 : decide ((9000 : Int) < (nl : Int)) = true := decide_eq_true (by omega)
    have e2 : decide (9000 < nl) = true := decide_eq_true (by omega)
    have e3 : (9000 : Int) < (nl : Int) := by omega
    clear h h1 h2
    refine (callsIn_wide (n := 8)).1 ?_
    refine callsIn_of_wp_marks Tryz.func3 rfl trivial ?_ rfl
    simp only [Tryz.ntmps3, List.size_toArray, List.length_cons, List.length_nil, Nat.reduceAdd, Nat.reduceSub, Array.replicate_succ, Array.replicate_zero, List.push_toArray, List.append_toArray, List.nil_append, List.cons_append]
    refine wpIn_wide.2 ?_
    go_wp2_with (first
      | (go_at_call 7; (with_reducible refine (KN.out _ O0.out).mono ?_); rintro e w1 ⟨rfl, o1⟩; have OC := hide (O0.out.trans0 o1); have BB := B6.out.only o1 (by simp); have BH := hide BB; have x0 := BB.cell 0; have f0 := BB.frozen 0; clear o1 BB))
    have y0 := (BH.out.set_ 0 (.bool true)).cell 0
    refine ⟨.bool true, ?_, rfl, OC.out.setCell (p := ⟨X + 1, 0, none⟩) (.inr (by simp only; omega)) _⟩
    simp only [results, Tryz.results3]
    simp [go_sem, y0]
end Go.Proofs.YteblhklclcjonaaGreatDoor
