/- Turns: the walks of in, Leave, Yield, Put, Lift, Move. Condition: the turns lie. -/
import Derived.Test.YtnndengdlokmbaaTu5
import Derived.Test.YtnndengdlokmbaaTu7
namespace Go.Proofs.Ytnndengdlokmbaa
open Go.RowKit
set_option linter.unusedVariables false
set_option linter.all false
set_option maxRecDepth 20000

def mayT (t p : Int) : Prop := 0 ≤ t ∧ t < 16 ∧ 1 ≤ p ∧ p ≤ 31
instance (t p : Int) : Decidable (mayT t p) := inferInstanceAs (Decidable (_ ∧ _ ∧ _ ∧ _))
theorem in_arg (x g : Nat) (t p : Int) (v : Value) (w : World) (k0 : w.cell? ⟨x, 0, none⟩ = some (.pointer (some ⟨g, 0, none⟩))) (hb : ¬ mayT t p) : Calls Try.prog 51 #[ptr x, .int .i64 t, .int .i64 p, v] w fun e w' => e = .returned (.int .i64 2) ∧ w' = w := by
  unfold mayT at hb
  have IS := hide (is_any x g w k0)
  have TT := tthread_any t w
  have PP := priority_any p w
  unfold ptr at IS ⊢
  by_cases c1 : 0 ≤ t ∧ t < 16
  · have d1 : (decide (0 ≤ t) && decide (t < 16)) = true := by simp; exact c1
    have d2 : (decide (1 ≤ p) && decide (p ≤ 31)) = false := by simp; omega
    rw [d1] at TT
    rw [d2] at PP
    have TT := hide TT
    have PP := hide PP
    clear c1 hb d1 d2
    go_enter Try.func51, Try.ntmps51
    go_wp2_with (first
      | (go_at_call 34; refine IS.out.mono ?_; rintro e w' ⟨rfl, hw⟩; obtain rfl := hw.symm; clear hw)
      | (go_at_call 35; refine TT.out.mono ?_; rintro e w' ⟨rfl, hw⟩; obtain rfl := hw.symm; clear hw)
      | (go_at_call 36; refine PP.out.mono ?_; rintro e w' ⟨rfl, hw⟩; obtain rfl := hw.symm; clear hw))
    go_ret
    exact ⟨rfl, rfl⟩
  · have d1 : (decide (0 ≤ t) && decide (t < 16)) = false := by simp; omega
    rw [d1] at TT
    have TT := hide TT
    clear c1 hb d1
    go_enter Try.func51, Try.ntmps51
    go_wp2_with (first
      | (go_at_call 34; refine IS.out.mono ?_; rintro e w' ⟨rfl, hw⟩; obtain rfl := hw.symm; clear hw)
      | (go_at_call 35; refine TT.out.mono ?_; rintro e w' ⟨rfl, hw⟩; obtain rfl := hw.symm; clear hw))
    go_ret
    exact ⟨rfl, rfl⟩
theorem in_none (x g t p : Nat) (v : Value) (ht : t < 16) (h1 : 1 ≤ p) (h2 : p ≤ 31) (w : World) (k0 : w.cell? ⟨x, 0, none⟩ = some (.pointer (some ⟨g, 0, none⟩))) (k1 : w.cell? ⟨x, 2 + t * 4, none⟩ = some (.bool false)) : Calls Try.prog 51 #[ptr x, .int .i64 t, .int .i64 p, v] w fun e w' => e = .returned (.int .i64 6) ∧ w' = w := by
  have IS := hide (is_any x g w k0)
  have TT := tthread_any t w
  have PP := priority_any p w
  have d1 : (decide (0 ≤ (t : Int)) && decide ((t : Int) < 16)) = true := by simp; omega
  have d2 : (decide (1 ≤ (p : Int)) && decide ((p : Int) ≤ 31)) = true := by simp; omega
  rw [d1] at TT
  rw [d2] at PP
  have TT := hide TT
  have PP := hide PP
  clear d1 d2
  have q1 : (0 : Int) ≤ (t : Int) := by omega
  have q2 : (t : Int) < 16 := by omega
  unfold ptr at IS ⊢
  go_enter Try.func51, Try.ntmps51
  go_wp2_with (first
    | (go_at_call 34; refine IS.out.mono ?_; rintro e w' ⟨rfl, hw⟩; obtain rfl := hw.symm; clear hw)
    | (go_at_call 35; refine TT.out.mono ?_; rintro e w' ⟨rfl, hw⟩; obtain rfl := hw.symm; clear hw)
    | (go_at_call 36; refine PP.out.mono ?_; rintro e w' ⟨rfl, hw⟩; obtain rfl := hw.symm; clear hw))
  go_ret
  exact ⟨rfl, rfl⟩
theorem in_52 (B1 B2 x g t p : Nat) (ht : t < 16) (h1 : 1 ≤ p) (h2 : p ≤ 31) (w : World) (k0 : w.cell? ⟨x, 0, none⟩ = some (.pointer (some ⟨g, 0, none⟩))) (k1 : w.cell? ⟨x, 2 + t * 4, none⟩ = some (.bool true)) (Post : World → Prop)
    (hcl : Calls Try.prog 52 #[.pointer (some ⟨x, 2 + t * 4, none⟩), .pointer (some ⟨B1, 0, none⟩), .pointer (some ⟨B2, 0, none⟩)] w fun e w' => e = .returned (.tuple #[]) ∧ Post w') : Calls Try.prog 51 #[ptr x, .int .i64 t, .int .i64 p, .func (.func 52) #[] #[.pointer (some ⟨B1, 0, none⟩), .pointer (some ⟨B2, 0, none⟩)]] w fun e w' => e = .returned (.int .i64 0) ∧ Post w' := by
  have IS := hide (is_any x g w k0)
  have TT := tthread_any t w
  have PP := priority_any p w
  have d1 : (decide (0 ≤ (t : Int)) && decide ((t : Int) < 16)) = true := by simp; omega
  have d2 : (decide (1 ≤ (p : Int)) && decide ((p : Int) ≤ 31)) = true := by simp; omega
  rw [d1] at TT
  rw [d2] at PP
  have TT := hide TT
  have PP := hide PP
  clear d1 d2
  have q1 : (0 : Int) ≤ (t : Int) := by omega
  have q2 : (t : Int) < 16 := by omega
  have CL := hide hcl
  clear hcl
  unfold ptr at IS ⊢
  go_enter Try.func51, Try.ntmps51
  go_wp2_with (first
    | (go_at_call 34; refine IS.out.mono ?_; rintro e w' ⟨rfl, hw⟩; obtain rfl := hw.symm; clear hw)
    | (go_at_call 35; refine TT.out.mono ?_; rintro e w' ⟨rfl, hw⟩; obtain rfl := hw.symm; clear hw)
    | (go_at_call 36; refine PP.out.mono ?_; rintro e w' ⟨rfl, hw⟩; obtain rfl := hw.symm; clear hw)
    | (go_at_call 52; refine CL.out.mono ?_; rintro e w2 ⟨rfl, hP⟩; have HP := hide hP; clear hP))
  go_ret
  exact ⟨rfl, HP.out⟩
theorem in_54 (B1 B2 x g t p : Nat) (ht : t < 16) (h1 : 1 ≤ p) (h2 : p ≤ 31) (w : World) (k0 : w.cell? ⟨x, 0, none⟩ = some (.pointer (some ⟨g, 0, none⟩))) (k1 : w.cell? ⟨x, 2 + t * 4, none⟩ = some (.bool true)) (Post : World → Prop)
    (hcl : Calls Try.prog 54 #[.pointer (some ⟨x, 2 + t * 4, none⟩), .pointer (some ⟨B1, 0, none⟩), .pointer (some ⟨B2, 0, none⟩)] w fun e w' => e = .returned (.tuple #[]) ∧ Post w') : Calls Try.prog 51 #[ptr x, .int .i64 t, .int .i64 p, .func (.func 54) #[] #[.pointer (some ⟨B1, 0, none⟩), .pointer (some ⟨B2, 0, none⟩)]] w fun e w' => e = .returned (.int .i64 0) ∧ Post w' := by
  have IS := hide (is_any x g w k0)
  have TT := tthread_any t w
  have PP := priority_any p w
  have d1 : (decide (0 ≤ (t : Int)) && decide ((t : Int) < 16)) = true := by simp; omega
  have d2 : (decide (1 ≤ (p : Int)) && decide ((p : Int) ≤ 31)) = true := by simp; omega
  rw [d1] at TT
  rw [d2] at PP
  have TT := hide TT
  have PP := hide PP
  clear d1 d2
  have q1 : (0 : Int) ≤ (t : Int) := by omega
  have q2 : (t : Int) < 16 := by omega
  have CL := hide hcl
  clear hcl
  unfold ptr at IS ⊢
  go_enter Try.func51, Try.ntmps51
  go_wp2_with (first
    | (go_at_call 34; refine IS.out.mono ?_; rintro e w' ⟨rfl, hw⟩; obtain rfl := hw.symm; clear hw)
    | (go_at_call 35; refine TT.out.mono ?_; rintro e w' ⟨rfl, hw⟩; obtain rfl := hw.symm; clear hw)
    | (go_at_call 36; refine PP.out.mono ?_; rintro e w' ⟨rfl, hw⟩; obtain rfl := hw.symm; clear hw)
    | (go_at_call 54; refine CL.out.mono ?_; rintro e w2 ⟨rfl, hP⟩; have HP := hide hP; clear hP))
  go_ret
  exact ⟨rfl, HP.out⟩
theorem in_55 (B1 B2 B3 B4 x g t p : Nat) (ht : t < 16) (h1 : 1 ≤ p) (h2 : p ≤ 31) (w : World) (k0 : w.cell? ⟨x, 0, none⟩ = some (.pointer (some ⟨g, 0, none⟩))) (k1 : w.cell? ⟨x, 2 + t * 4, none⟩ = some (.bool true)) (Post : World → Prop)
    (hcl : Calls Try.prog 55 #[.pointer (some ⟨x, 2 + t * 4, none⟩), .pointer (some ⟨B1, 0, none⟩), .pointer (some ⟨B2, 0, none⟩), .pointer (some ⟨B3, 0, none⟩), .pointer (some ⟨B4, 0, none⟩)] w fun e w' => e = .returned (.tuple #[]) ∧ Post w') : Calls Try.prog 51 #[ptr x, .int .i64 t, .int .i64 p, .func (.func 55) #[] #[.pointer (some ⟨B1, 0, none⟩), .pointer (some ⟨B2, 0, none⟩), .pointer (some ⟨B3, 0, none⟩), .pointer (some ⟨B4, 0, none⟩)]] w fun e w' => e = .returned (.int .i64 0) ∧ Post w' := by
  have IS := hide (is_any x g w k0)
  have TT := tthread_any t w
  have PP := priority_any p w
  have d1 : (decide (0 ≤ (t : Int)) && decide ((t : Int) < 16)) = true := by simp; omega
  have d2 : (decide (1 ≤ (p : Int)) && decide ((p : Int) ≤ 31)) = true := by simp; omega
  rw [d1] at TT
  rw [d2] at PP
  have TT := hide TT
  have PP := hide PP
  clear d1 d2
  have q1 : (0 : Int) ≤ (t : Int) := by omega
  have q2 : (t : Int) < 16 := by omega
  have CL := hide hcl
  clear hcl
  unfold ptr at IS ⊢
  go_enter Try.func51, Try.ntmps51
  go_wp2_with (first
    | (go_at_call 34; refine IS.out.mono ?_; rintro e w' ⟨rfl, hw⟩; obtain rfl := hw.symm; clear hw)
    | (go_at_call 35; refine TT.out.mono ?_; rintro e w' ⟨rfl, hw⟩; obtain rfl := hw.symm; clear hw)
    | (go_at_call 36; refine PP.out.mono ?_; rintro e w' ⟨rfl, hw⟩; obtain rfl := hw.symm; clear hw)
    | (go_at_call 55; refine CL.out.mono ?_; rintro e w2 ⟨rfl, hP⟩; have HP := hide hP; clear hP))
  go_ret
  exact ⟨rfl, HP.out⟩
theorem in_57 (B1 B2 B3 x g t p : Nat) (ht : t < 16) (h1 : 1 ≤ p) (h2 : p ≤ 31) (w : World) (k0 : w.cell? ⟨x, 0, none⟩ = some (.pointer (some ⟨g, 0, none⟩))) (k1 : w.cell? ⟨x, 2 + t * 4, none⟩ = some (.bool true)) (Post : World → Prop)
    (hcl : Calls Try.prog 57 #[.pointer (some ⟨x, 2 + t * 4, none⟩), .pointer (some ⟨B1, 0, none⟩), .pointer (some ⟨B2, 0, none⟩), .pointer (some ⟨B3, 0, none⟩)] w fun e w' => e = .returned (.tuple #[]) ∧ Post w') : Calls Try.prog 51 #[ptr x, .int .i64 t, .int .i64 p, .func (.func 57) #[] #[.pointer (some ⟨B1, 0, none⟩), .pointer (some ⟨B2, 0, none⟩), .pointer (some ⟨B3, 0, none⟩)]] w fun e w' => e = .returned (.int .i64 0) ∧ Post w' := by
  have IS := hide (is_any x g w k0)
  have TT := tthread_any t w
  have PP := priority_any p w
  have d1 : (decide (0 ≤ (t : Int)) && decide ((t : Int) < 16)) = true := by simp; omega
  have d2 : (decide (1 ≤ (p : Int)) && decide ((p : Int) ≤ 31)) = true := by simp; omega
  rw [d1] at TT
  rw [d2] at PP
  have TT := hide TT
  have PP := hide PP
  clear d1 d2
  have q1 : (0 : Int) ≤ (t : Int) := by omega
  have q2 : (t : Int) < 16 := by omega
  have CL := hide hcl
  clear hcl
  unfold ptr at IS ⊢
  go_enter Try.func51, Try.ntmps51
  go_wp2_with (first
    | (go_at_call 34; refine IS.out.mono ?_; rintro e w' ⟨rfl, hw⟩; obtain rfl := hw.symm; clear hw)
    | (go_at_call 35; refine TT.out.mono ?_; rintro e w' ⟨rfl, hw⟩; obtain rfl := hw.symm; clear hw)
    | (go_at_call 36; refine PP.out.mono ?_; rintro e w' ⟨rfl, hw⟩; obtain rfl := hw.symm; clear hw)
    | (go_at_call 57; refine CL.out.mono ?_; rintro e w2 ⟨rfl, hP⟩; have HP := hide hP; clear hP))
  go_ret
  exact ⟨rfl, HP.out⟩
theorem in_56 (B1 B2 B3 x g t p : Nat) (ht : t < 16) (h1 : 1 ≤ p) (h2 : p ≤ 31) (w : World) (k0 : w.cell? ⟨x, 0, none⟩ = some (.pointer (some ⟨g, 0, none⟩))) (k1 : w.cell? ⟨x, 2 + t * 4, none⟩ = some (.bool true)) (Post : World → Prop)
    (hcl : Calls Try.prog 56 #[.pointer (some ⟨x, 2 + t * 4, none⟩), .pointer (some ⟨B1, 0, none⟩), .pointer (some ⟨B2, 0, none⟩), .pointer (some ⟨B3, 0, none⟩)] w fun e w' => e = .returned (.tuple #[]) ∧ Post w') : Calls Try.prog 51 #[ptr x, .int .i64 t, .int .i64 p, .func (.func 56) #[] #[.pointer (some ⟨B1, 0, none⟩), .pointer (some ⟨B2, 0, none⟩), .pointer (some ⟨B3, 0, none⟩)]] w fun e w' => e = .returned (.int .i64 0) ∧ Post w' := by
  have IS := hide (is_any x g w k0)
  have TT := tthread_any t w
  have PP := priority_any p w
  have d1 : (decide (0 ≤ (t : Int)) && decide ((t : Int) < 16)) = true := by simp; omega
  have d2 : (decide (1 ≤ (p : Int)) && decide ((p : Int) ≤ 31)) = true := by simp; omega
  rw [d1] at TT
  rw [d2] at PP
  have TT := hide TT
  have PP := hide PP
  clear d1 d2
  have q1 : (0 : Int) ≤ (t : Int) := by omega
  have q2 : (t : Int) < 16 := by omega
  have CL := hide hcl
  clear hcl
  unfold ptr at IS ⊢
  go_enter Try.func51, Try.ntmps51
  go_wp2_with (first
    | (go_at_call 34; refine IS.out.mono ?_; rintro e w' ⟨rfl, hw⟩; obtain rfl := hw.symm; clear hw)
    | (go_at_call 35; refine TT.out.mono ?_; rintro e w' ⟨rfl, hw⟩; obtain rfl := hw.symm; clear hw)
    | (go_at_call 36; refine PP.out.mono ?_; rintro e w' ⟨rfl, hw⟩; obtain rfl := hw.symm; clear hw)
    | (go_at_call 56; refine CL.out.mono ?_; rintro e w2 ⟨rfl, hP⟩; have HP := hide hP; clear hP))
  go_ret
  exact ⟨rfl, HP.out⟩
end Go.Proofs.Ytnndengdlokmbaa
