/- Ready lists: the walks of Tail and Head. Condition: the list lies. -/
import Derived.Test.YtnndengdlokmbaaRd5
namespace Go.Proofs.Ytnndengdlokmbaa
open Go.RowKit
set_option linter.unusedVariables false
set_option linter.all false
set_option maxRecDepth 20000

theorem put35_arg_t (B1 B2 g : Nat) (p t : Int) (hb : ¬ (0 ≤ t ∧ t < 16)) (w : World) (k0 : w.cell? ⟨g, 0, none⟩ = some (.bool true)) :
    Calls Try.prog 59 #[ptr g, .int .i64 p, .int .i64 t, .func (.func 60) #[] #[.pointer (some ⟨B1, 0, none⟩), .pointer (some ⟨B2, 0, none⟩)]] w fun e w' => e = .returned (.int .i64 2) ∧ Only [] w w' := by
  have TH := hide (there_any g true w k0)
  have TT := hide (thread_any t w)
  have d1 : (decide ((0 : Int) ≤ t) && decide (t < 16)) = false := by simp; omega
  unfold ptr at TH ⊢
  go_enter Try.func59, Try.ntmps59
  go_wp2_with (first
    | (go_at_call 62; refine TH.out.mono ?_; rintro e w' ⟨rfl, hw⟩; obtain rfl := hw.symm; clear hw)
    | (go_at_call 68; refine TT.out.mono ?_; rw [d1]; rintro e w' ⟨rfl, hw⟩; obtain rfl := hw.symm; clear hw))
  go_ret
  exact ⟨rfl, Only.refl _ _⟩
theorem put35_arg_lo (B1 B2 g : Nat) (p t : Int) (ht : 0 ≤ t ∧ t < 16) (hb : p < 1) (w : World) (k0 : w.cell? ⟨g, 0, none⟩ = some (.bool true)) :
    Calls Try.prog 59 #[ptr g, .int .i64 p, .int .i64 t, .func (.func 60) #[] #[.pointer (some ⟨B1, 0, none⟩), .pointer (some ⟨B2, 0, none⟩)]] w fun e w' => e = .returned (.int .i64 2) ∧ Only [] w w' := by
  have TH := hide (there_any g true w k0)
  have TT := hide (thread_any t w)
  have d1 : (decide ((0 : Int) ≤ t) && decide (t < 16)) = true := by simp; omega
  have q3 : decide (p < 1) = true := by simp [hb]
  unfold ptr at TH ⊢
  go_enter Try.func59, Try.ntmps59
  go_wp2_with (first
    | (go_at_call 62; refine TH.out.mono ?_; rintro e w' ⟨rfl, hw⟩; obtain rfl := hw.symm; clear hw)
    | (go_at_call 68; refine TT.out.mono ?_; rw [d1]; rintro e w' ⟨rfl, hw⟩; obtain rfl := hw.symm; clear hw))
  go_ret
  exact ⟨rfl, Only.refl _ _⟩
theorem put35_arg_hi (B1 B2 g : Nat) (p t : Int) (ht : 0 ≤ t ∧ t < 16) (hb : 31 < p) (w : World) (k0 : w.cell? ⟨g, 0, none⟩ = some (.bool true)) :
    Calls Try.prog 59 #[ptr g, .int .i64 p, .int .i64 t, .func (.func 60) #[] #[.pointer (some ⟨B1, 0, none⟩), .pointer (some ⟨B2, 0, none⟩)]] w fun e w' => e = .returned (.int .i64 2) ∧ Only [] w w' := by
  have TH := hide (there_any g true w k0)
  have TT := hide (thread_any t w)
  have d1 : (decide ((0 : Int) ≤ t) && decide (t < 16)) = true := by simp; omega
  have q3 : decide (p < 1) = false := by simp; omega
  have q4 : decide (31 < p) = true := by simp [hb]
  unfold ptr at TH ⊢
  go_enter Try.func59, Try.ntmps59
  go_wp2_with (first
    | (go_at_call 62; refine TH.out.mono ?_; rintro e w' ⟨rfl, hw⟩; obtain rfl := hw.symm; clear hw)
    | (go_at_call 68; refine TT.out.mono ?_; rw [d1]; rintro e w' ⟨rfl, hw⟩; obtain rfl := hw.symm; clear hw))
  go_ret
  exact ⟨rfl, Only.refl _ _⟩
theorem put35_arg (B1 B2 g : Nat) (p t : Int) (hb : ¬ (0 ≤ t ∧ t < 16 ∧ 1 ≤ p ∧ p ≤ 31)) (w : World) (k0 : w.cell? ⟨g, 0, none⟩ = some (.bool true)) :
    Calls Try.prog 59 #[ptr g, .int .i64 p, .int .i64 t, .func (.func 60) #[] #[.pointer (some ⟨B1, 0, none⟩), .pointer (some ⟨B2, 0, none⟩)]] w fun e w' => e = .returned (.int .i64 2) ∧ Only [] w w' := by
  by_cases ht : 0 ≤ t ∧ t < 16
  · by_cases h1 : p < 1
    · exact put35_arg_lo B1 B2 g p t ht h1 w k0
    · exact put35_arg_hi B1 B2 g p t ht (by omega) w k0
  · exact put35_arg_t B1 B2 g p t ht w k0
theorem put35_state (B1 B2 g p t : Nat) (h1 : 1 ≤ p) (h2 : p ≤ 31) (ht : t < 16) (v : Int) (hv : v ≠ 0) (w : World) (k0 : w.cell? ⟨g, 0, none⟩ = some (.bool true)) (kp : w.cell? ⟨g, 98 + t, none⟩ = some (.int .i64 v)) :
    Calls Try.prog 59 #[ptr g, .int .i64 p, .int .i64 t, .func (.func 60) #[] #[.pointer (some ⟨B1, 0, none⟩), .pointer (some ⟨B2, 0, none⟩)]] w fun e w' => e = .returned (.int .i64 7) ∧ Only [] w w' := by
  have q1 : (0 : Int) ≤ (t : Int) := by omega
  have q2 : (t : Int) < 16 := by omega
  have q3 : decide ((p : Int) < 1) = false := by simp; omega
  have q4 : decide ((31 : Int) < (p : Int)) = false := by simp; omega
  have gv : (v == 0) = false := by simp [hv]
  have TH := hide (there_any g true w k0)
  have TT := hide (thread_any t w)
  have d1 : (decide ((0 : Int) ≤ (t : Int)) && decide ((t : Int) < 16)) = true := by simp; omega
  unfold ptr at TH ⊢
  go_enter Try.func59, Try.ntmps59
  go_wp2_with (first
    | (go_at_call 62; refine TH.out.mono ?_; rintro e w' ⟨rfl, hw⟩; obtain rfl := hw.symm; clear hw)
    | (go_at_call 68; refine TT.out.mono ?_; rw [d1]; rintro e w' ⟨rfl, hw⟩; obtain rfl := hw.symm; clear hw))
  go_ret
  exact ⟨rfl, Only.refl _ _⟩
theorem put36_arg_t (B1 B2 g : Nat) (p t : Int) (hb : ¬ (0 ≤ t ∧ t < 16)) (w : World) (k0 : w.cell? ⟨g, 0, none⟩ = some (.bool true)) :
    Calls Try.prog 59 #[ptr g, .int .i64 p, .int .i64 t, .func (.func 70) #[] #[.pointer (some ⟨B1, 0, none⟩), .pointer (some ⟨B2, 0, none⟩)]] w fun e w' => e = .returned (.int .i64 2) ∧ Only [] w w' := by
  have TH := hide (there_any g true w k0)
  have TT := hide (thread_any t w)
  have d1 : (decide ((0 : Int) ≤ t) && decide (t < 16)) = false := by simp; omega
  unfold ptr at TH ⊢
  go_enter Try.func59, Try.ntmps59
  go_wp2_with (first
    | (go_at_call 62; refine TH.out.mono ?_; rintro e w' ⟨rfl, hw⟩; obtain rfl := hw.symm; clear hw)
    | (go_at_call 68; refine TT.out.mono ?_; rw [d1]; rintro e w' ⟨rfl, hw⟩; obtain rfl := hw.symm; clear hw))
  go_ret
  exact ⟨rfl, Only.refl _ _⟩
theorem put36_arg_lo (B1 B2 g : Nat) (p t : Int) (ht : 0 ≤ t ∧ t < 16) (hb : p < 1) (w : World) (k0 : w.cell? ⟨g, 0, none⟩ = some (.bool true)) :
    Calls Try.prog 59 #[ptr g, .int .i64 p, .int .i64 t, .func (.func 70) #[] #[.pointer (some ⟨B1, 0, none⟩), .pointer (some ⟨B2, 0, none⟩)]] w fun e w' => e = .returned (.int .i64 2) ∧ Only [] w w' := by
  have TH := hide (there_any g true w k0)
  have TT := hide (thread_any t w)
  have d1 : (decide ((0 : Int) ≤ t) && decide (t < 16)) = true := by simp; omega
  have q3 : decide (p < 1) = true := by simp [hb]
  unfold ptr at TH ⊢
  go_enter Try.func59, Try.ntmps59
  go_wp2_with (first
    | (go_at_call 62; refine TH.out.mono ?_; rintro e w' ⟨rfl, hw⟩; obtain rfl := hw.symm; clear hw)
    | (go_at_call 68; refine TT.out.mono ?_; rw [d1]; rintro e w' ⟨rfl, hw⟩; obtain rfl := hw.symm; clear hw))
  go_ret
  exact ⟨rfl, Only.refl _ _⟩
theorem put36_arg_hi (B1 B2 g : Nat) (p t : Int) (ht : 0 ≤ t ∧ t < 16) (hb : 31 < p) (w : World) (k0 : w.cell? ⟨g, 0, none⟩ = some (.bool true)) :
    Calls Try.prog 59 #[ptr g, .int .i64 p, .int .i64 t, .func (.func 70) #[] #[.pointer (some ⟨B1, 0, none⟩), .pointer (some ⟨B2, 0, none⟩)]] w fun e w' => e = .returned (.int .i64 2) ∧ Only [] w w' := by
  have TH := hide (there_any g true w k0)
  have TT := hide (thread_any t w)
  have d1 : (decide ((0 : Int) ≤ t) && decide (t < 16)) = true := by simp; omega
  have q3 : decide (p < 1) = false := by simp; omega
  have q4 : decide (31 < p) = true := by simp [hb]
  unfold ptr at TH ⊢
  go_enter Try.func59, Try.ntmps59
  go_wp2_with (first
    | (go_at_call 62; refine TH.out.mono ?_; rintro e w' ⟨rfl, hw⟩; obtain rfl := hw.symm; clear hw)
    | (go_at_call 68; refine TT.out.mono ?_; rw [d1]; rintro e w' ⟨rfl, hw⟩; obtain rfl := hw.symm; clear hw))
  go_ret
  exact ⟨rfl, Only.refl _ _⟩
theorem put36_arg (B1 B2 g : Nat) (p t : Int) (hb : ¬ (0 ≤ t ∧ t < 16 ∧ 1 ≤ p ∧ p ≤ 31)) (w : World) (k0 : w.cell? ⟨g, 0, none⟩ = some (.bool true)) :
    Calls Try.prog 59 #[ptr g, .int .i64 p, .int .i64 t, .func (.func 70) #[] #[.pointer (some ⟨B1, 0, none⟩), .pointer (some ⟨B2, 0, none⟩)]] w fun e w' => e = .returned (.int .i64 2) ∧ Only [] w w' := by
  by_cases ht : 0 ≤ t ∧ t < 16
  · by_cases h1 : p < 1
    · exact put36_arg_lo B1 B2 g p t ht h1 w k0
    · exact put36_arg_hi B1 B2 g p t ht (by omega) w k0
  · exact put36_arg_t B1 B2 g p t ht w k0
theorem put36_state (B1 B2 g p t : Nat) (h1 : 1 ≤ p) (h2 : p ≤ 31) (ht : t < 16) (v : Int) (hv : v ≠ 0) (w : World) (k0 : w.cell? ⟨g, 0, none⟩ = some (.bool true)) (kp : w.cell? ⟨g, 98 + t, none⟩ = some (.int .i64 v)) :
    Calls Try.prog 59 #[ptr g, .int .i64 p, .int .i64 t, .func (.func 70) #[] #[.pointer (some ⟨B1, 0, none⟩), .pointer (some ⟨B2, 0, none⟩)]] w fun e w' => e = .returned (.int .i64 7) ∧ Only [] w w' := by
  have q1 : (0 : Int) ≤ (t : Int) := by omega
  have q2 : (t : Int) < 16 := by omega
  have q3 : decide ((p : Int) < 1) = false := by simp; omega
  have q4 : decide ((31 : Int) < (p : Int)) = false := by simp; omega
  have gv : (v == 0) = false := by simp [hv]
  have TH := hide (there_any g true w k0)
  have TT := hide (thread_any t w)
  have d1 : (decide ((0 : Int) ≤ (t : Int)) && decide ((t : Int) < 16)) = true := by simp; omega
  unfold ptr at TH ⊢
  go_enter Try.func59, Try.ntmps59
  go_wp2_with (first
    | (go_at_call 62; refine TH.out.mono ?_; rintro e w' ⟨rfl, hw⟩; obtain rfl := hw.symm; clear hw)
    | (go_at_call 68; refine TT.out.mono ?_; rw [d1]; rintro e w' ⟨rfl, hw⟩; obtain rfl := hw.symm; clear hw))
  go_ret
  exact ⟨rfl, Only.refl _ _⟩
theorem tail_good (g p t : Nat) (h1 : 1 ≤ p) (h2 : p ≤ 31) (ht : t < 16) (s : RS) (prio : Nat → Int) (bits : Nat) (hbits : bits < 4294967296) (st : Int) (hst : 0 ≤ st ∧ st < 1000000) (w : World) (h : RB w g s prio bits st) (h0 : prio t = 0) (hx : link? (s.tail p)) :
    Calls Try.prog 37 #[ptr g, .int .i64 p, .int .i64 t] w fun e w' => e = .returned (.int .i64 0) ∧ RB w' g (s.putT p t) (upd prio t p) (bits ||| 1 <<< p) (st + 4) ∧ Only [g] w w' := by
  have o2 : Only [] w ((w.alloc (.cells #[ptr g] 55)).alloc (.cells #[.int .i64 (p : Int)] 3)) := ((Only.refl [] w).alloc _).alloc _
  have b1 : ((w.alloc (.cells #[ptr g] 55)).alloc (.cells #[.int .i64 (p : Int)] 3)).cell? ⟨w.heap.size, 0, none⟩ = some (ptr g) := by simpa using ((Blk.new w 55 #[ptr g]).alloc (.cells #[.int .i64 (p : Int)] 3)).cell 0
  have b2 : ((w.alloc (.cells #[ptr g] 55)).alloc (.cells #[.int .i64 (p : Int)] 3)).cell? ⟨w.heap.size + 1, 0, none⟩ = some (.int .i64 (p : Int)) := by simpa using (Blk.new (w.alloc (.cells #[ptr g] 55)) 3 #[.int .i64 (p : Int)]).cell 0
  have C1 := hide (putT_any w.heap.size (w.heap.size + 1) g p t h1 h2 ht s prio bits hbits st hst ((w.alloc (.cells #[ptr g] 55)).alloc (.cells #[.int .i64 (p : Int)] 3)) (h.only o2 (by simp)) h0 hx b1 b2)
  unfold ptr at C1 b1 b2 o2 ⊢
  go_enter Try.func37, Try.ntmps37
  go_wp2_with (first
    | (go_at_call 59; refine C1.out.mono ?_; rintro e w3 ⟨rfl, R3, o3⟩))
  go_ret
  exact ⟨rfl, R3, (wide_only (S := [g]) o2).trans o3 (fun x hx => .inl hx)⟩
theorem tail_arg (g : Nat) (p t : Int) (hb : ¬ (0 ≤ t ∧ t < 16 ∧ 1 ≤ p ∧ p ≤ 31)) (w : World) (k0 : w.cell? ⟨g, 0, none⟩ = some (.bool true)) :
    Calls Try.prog 37 #[ptr g, .int .i64 p, .int .i64 t] w fun e w' => e = .returned (.int .i64 2) ∧ Only [] w w' := by
  have o2 : Only [] w ((w.alloc (.cells #[ptr g] 55)).alloc (.cells #[.int .i64 p] 3)) := ((Only.refl [] w).alloc _).alloc _
  have b1 : ((w.alloc (.cells #[ptr g] 55)).alloc (.cells #[.int .i64 p] 3)).cell? ⟨w.heap.size, 0, none⟩ = some (ptr g) := by simpa using ((Blk.new w 55 #[ptr g]).alloc (.cells #[.int .i64 p] 3)).cell 0
  have b2 : ((w.alloc (.cells #[ptr g] 55)).alloc (.cells #[.int .i64 p] 3)).cell? ⟨w.heap.size + 1, 0, none⟩ = some (.int .i64 p) := by simpa using (Blk.new (w.alloc (.cells #[ptr g] 55)) 3 #[.int .i64 p]).cell 0
  have C1 := hide (put35_arg w.heap.size (w.heap.size + 1) g p t hb ((w.alloc (.cells #[ptr g] 55)).alloc (.cells #[.int .i64 p] 3)) (o2.keep0 k0))
  unfold ptr at C1 b1 b2 o2 ⊢
  go_enter Try.func37, Try.ntmps37
  go_wp2_with (first
    | (go_at_call 59; refine C1.out.mono ?_; rintro e w3 ⟨rfl, o3⟩))
  go_ret
  exact ⟨rfl, o2.trans0 o3⟩
theorem tail_state (g p t : Nat) (h1 : 1 ≤ p) (h2 : p ≤ 31) (ht : t < 16) (v : Int) (hv : v ≠ 0) (w : World) (k0 : w.cell? ⟨g, 0, none⟩ = some (.bool true)) (kp : w.cell? ⟨g, 98 + t, none⟩ = some (.int .i64 v)) :
    Calls Try.prog 37 #[ptr g, .int .i64 p, .int .i64 t] w fun e w' => e = .returned (.int .i64 7) ∧ Only [] w w' := by
  have o2 : Only [] w ((w.alloc (.cells #[ptr g] 55)).alloc (.cells #[.int .i64 (p : Int)] 3)) := ((Only.refl [] w).alloc _).alloc _
  have b1 : ((w.alloc (.cells #[ptr g] 55)).alloc (.cells #[.int .i64 (p : Int)] 3)).cell? ⟨w.heap.size, 0, none⟩ = some (ptr g) := by simpa using ((Blk.new w 55 #[ptr g]).alloc (.cells #[.int .i64 (p : Int)] 3)).cell 0
  have b2 : ((w.alloc (.cells #[ptr g] 55)).alloc (.cells #[.int .i64 (p : Int)] 3)).cell? ⟨w.heap.size + 1, 0, none⟩ = some (.int .i64 (p : Int)) := by simpa using (Blk.new (w.alloc (.cells #[ptr g] 55)) 3 #[.int .i64 (p : Int)]).cell 0
  have C1 := hide (put35_state w.heap.size (w.heap.size + 1) g p t h1 h2 ht v hv ((w.alloc (.cells #[ptr g] 55)).alloc (.cells #[.int .i64 (p : Int)] 3)) (o2.keep0 k0) (o2.keep0 kp))
  unfold ptr at C1 b1 b2 o2 ⊢
  go_enter Try.func37, Try.ntmps37
  go_wp2_with (first
    | (go_at_call 59; refine C1.out.mono ?_; rintro e w3 ⟨rfl, o3⟩))
  go_ret
  exact ⟨rfl, o2.trans0 o3⟩
theorem head_good (g p t : Nat) (h1 : 1 ≤ p) (h2 : p ≤ 31) (ht : t < 16) (s : RS) (prio : Nat → Int) (bits : Nat) (hbits : bits < 4294967296) (st : Int) (hst : 0 ≤ st ∧ st < 1000000) (w : World) (h : RB w g s prio bits st) (h0 : prio t = 0) (hx : link? (s.head p)) :
    Calls Try.prog 61 #[ptr g, .int .i64 p, .int .i64 t] w fun e w' => e = .returned (.int .i64 0) ∧ RB w' g (s.putH p t) (upd prio t p) (bits ||| 1 <<< p) (st + 4) ∧ Only [g] w w' := by
  have o2 : Only [] w ((w.alloc (.cells #[ptr g] 55)).alloc (.cells #[.int .i64 (p : Int)] 3)) := ((Only.refl [] w).alloc _).alloc _
  have b1 : ((w.alloc (.cells #[ptr g] 55)).alloc (.cells #[.int .i64 (p : Int)] 3)).cell? ⟨w.heap.size, 0, none⟩ = some (ptr g) := by simpa using ((Blk.new w 55 #[ptr g]).alloc (.cells #[.int .i64 (p : Int)] 3)).cell 0
  have b2 : ((w.alloc (.cells #[ptr g] 55)).alloc (.cells #[.int .i64 (p : Int)] 3)).cell? ⟨w.heap.size + 1, 0, none⟩ = some (.int .i64 (p : Int)) := by simpa using (Blk.new (w.alloc (.cells #[ptr g] 55)) 3 #[.int .i64 (p : Int)]).cell 0
  have C1 := hide (putH_any w.heap.size (w.heap.size + 1) g p t h1 h2 ht s prio bits hbits st hst ((w.alloc (.cells #[ptr g] 55)).alloc (.cells #[.int .i64 (p : Int)] 3)) (h.only o2 (by simp)) h0 hx b1 b2)
  unfold ptr at C1 b1 b2 o2 ⊢
  go_enter Try.func61, Try.ntmps61
  go_wp2_with (first
    | (go_at_call 59; refine C1.out.mono ?_; rintro e w3 ⟨rfl, R3, o3⟩))
  go_ret
  exact ⟨rfl, R3, (wide_only (S := [g]) o2).trans o3 (fun x hx => .inl hx)⟩
theorem head_arg (g : Nat) (p t : Int) (hb : ¬ (0 ≤ t ∧ t < 16 ∧ 1 ≤ p ∧ p ≤ 31)) (w : World) (k0 : w.cell? ⟨g, 0, none⟩ = some (.bool true)) :
    Calls Try.prog 61 #[ptr g, .int .i64 p, .int .i64 t] w fun e w' => e = .returned (.int .i64 2) ∧ Only [] w w' := by
  have o2 : Only [] w ((w.alloc (.cells #[ptr g] 55)).alloc (.cells #[.int .i64 p] 3)) := ((Only.refl [] w).alloc _).alloc _
  have b1 : ((w.alloc (.cells #[ptr g] 55)).alloc (.cells #[.int .i64 p] 3)).cell? ⟨w.heap.size, 0, none⟩ = some (ptr g) := by simpa using ((Blk.new w 55 #[ptr g]).alloc (.cells #[.int .i64 p] 3)).cell 0
  have b2 : ((w.alloc (.cells #[ptr g] 55)).alloc (.cells #[.int .i64 p] 3)).cell? ⟨w.heap.size + 1, 0, none⟩ = some (.int .i64 p) := by simpa using (Blk.new (w.alloc (.cells #[ptr g] 55)) 3 #[.int .i64 p]).cell 0
  have C1 := hide (put36_arg w.heap.size (w.heap.size + 1) g p t hb ((w.alloc (.cells #[ptr g] 55)).alloc (.cells #[.int .i64 p] 3)) (o2.keep0 k0))
  unfold ptr at C1 b1 b2 o2 ⊢
  go_enter Try.func61, Try.ntmps61
  go_wp2_with (first
    | (go_at_call 59; refine C1.out.mono ?_; rintro e w3 ⟨rfl, o3⟩))
  go_ret
  exact ⟨rfl, o2.trans0 o3⟩
theorem head_state (g p t : Nat) (h1 : 1 ≤ p) (h2 : p ≤ 31) (ht : t < 16) (v : Int) (hv : v ≠ 0) (w : World) (k0 : w.cell? ⟨g, 0, none⟩ = some (.bool true)) (kp : w.cell? ⟨g, 98 + t, none⟩ = some (.int .i64 v)) :
    Calls Try.prog 61 #[ptr g, .int .i64 p, .int .i64 t] w fun e w' => e = .returned (.int .i64 7) ∧ Only [] w w' := by
  have o2 : Only [] w ((w.alloc (.cells #[ptr g] 55)).alloc (.cells #[.int .i64 (p : Int)] 3)) := ((Only.refl [] w).alloc _).alloc _
  have b1 : ((w.alloc (.cells #[ptr g] 55)).alloc (.cells #[.int .i64 (p : Int)] 3)).cell? ⟨w.heap.size, 0, none⟩ = some (ptr g) := by simpa using ((Blk.new w 55 #[ptr g]).alloc (.cells #[.int .i64 (p : Int)] 3)).cell 0
  have b2 : ((w.alloc (.cells #[ptr g] 55)).alloc (.cells #[.int .i64 (p : Int)] 3)).cell? ⟨w.heap.size + 1, 0, none⟩ = some (.int .i64 (p : Int)) := by simpa using (Blk.new (w.alloc (.cells #[ptr g] 55)) 3 #[.int .i64 (p : Int)]).cell 0
  have C1 := hide (put36_state w.heap.size (w.heap.size + 1) g p t h1 h2 ht v hv ((w.alloc (.cells #[ptr g] 55)).alloc (.cells #[.int .i64 (p : Int)] 3)) (o2.keep0 k0) (o2.keep0 kp))
  unfold ptr at C1 b1 b2 o2 ⊢
  go_enter Try.func61, Try.ntmps61
  go_wp2_with (first
    | (go_at_call 59; refine C1.out.mono ?_; rintro e w3 ⟨rfl, o3⟩))
  go_ret
  exact ⟨rfl, o2.trans0 o3⟩
end Go.Proofs.Ytnndengdlokmbaa
