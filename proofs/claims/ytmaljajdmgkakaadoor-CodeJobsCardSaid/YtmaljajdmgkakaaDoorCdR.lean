/- Code, the document's: the walk of CheckJob. Condition: the job's cells. -/
import Derived.Test.YtmaljajdmgkakaaDoorCdQ
namespace Go.Proofs.YtmaljajdmgkakaaDoor
open Go.RowKit
set_option linter.unusedVariables false
set_option linter.all false
set_option maxRecDepth 20000

set_option maxHeartbeats 8000000 in
theorem rcj0 (J : Jb) (w : World)  (h0 : J.t < 1) : Calls Tryd.prog 17 #[.agg (jobV J)] w fun e w' => e = .returned (.int .i64 (jobE J)) ∧ Only [] w w' := by
  have hE := hide (jobE_row (J := J) (q := 0) (by omega) (.inl (show J.t < 1 from h0)))
  have b1 := Blk.new w 46 (jobV J)
  have o1 := (Only.refl [] w).alloc (.cells (jobV J) 46)
  unfold jobV at b1 o1
  unfold jobV
  have x0 := b1.cell 0
  have x1 := b1.cell 1
  have x2 := b1.cell 2
  have x3 := b1.cell 3
  have x4 := b1.cell 4
  have x5 := b1.cell 5
  have x6 := b1.cell 6
  have x7 := b1.cell 7
  have B1 := hide b1
  have O1 := hide o1
  clear b1 o1
  have d0 : decide (J.t < 1) = true := decide_eq_true h0
  clear h0
  go_enter Tryd.func17, Tryd.ntmps17
  go_wp2_with fail
  go_ret
  exact ⟨by rw [hE.out]; rfl, O1.out⟩

set_option maxHeartbeats 8000000 in
theorem rcj1 (J : Jb) (w : World) (h0 : ¬ (J.t < 1)) (h1 : 16 < J.t) : Calls Tryd.prog 17 #[.agg (jobV J)] w fun e w' => e = .returned (.int .i64 (jobE J)) ∧ Only [] w w' := by
  have hE := hide (jobE_row (J := J) (q := 0) (by omega) (.inr (show 16 < J.t from h1)))
  have b1 := Blk.new w 46 (jobV J)
  have o1 := (Only.refl [] w).alloc (.cells (jobV J) 46)
  unfold jobV at b1 o1
  unfold jobV
  have x0 := b1.cell 0
  have x1 := b1.cell 1
  have x2 := b1.cell 2
  have x3 := b1.cell 3
  have x4 := b1.cell 4
  have x5 := b1.cell 5
  have x6 := b1.cell 6
  have x7 := b1.cell 7
  have B1 := hide b1
  have O1 := hide o1
  clear b1 o1
  have d0 : decide (J.t < 1) = false := decide_eq_false h0
  have d1 : decide (16 < J.t) = true := decide_eq_true h1
  clear h0 h1
  go_enter Tryd.func17, Tryd.ntmps17
  go_wp2_with fail
  go_ret
  exact ⟨by rw [hE.out]; rfl, O1.out⟩

set_option maxHeartbeats 8000000 in
theorem rcj2 (J : Jb) (w : World) (h0 : ¬ (J.t < 1)) (h1 : ¬ (16 < J.t)) (h2 : J.o < 1) : Calls Tryd.prog 17 #[.agg (jobV J)] w fun e w' => e = .returned (.int .i64 (jobE J)) ∧ Only [] w w' := by
  have hE := hide (jobE_row (J := J) (q := 1) (by omega) (.inl (show J.o < 1 from h2)))
  have b1 := Blk.new w 46 (jobV J)
  have o1 := (Only.refl [] w).alloc (.cells (jobV J) 46)
  unfold jobV at b1 o1
  unfold jobV
  have x0 := b1.cell 0
  have x1 := b1.cell 1
  have x2 := b1.cell 2
  have x3 := b1.cell 3
  have x4 := b1.cell 4
  have x5 := b1.cell 5
  have x6 := b1.cell 6
  have x7 := b1.cell 7
  have B1 := hide b1
  have O1 := hide o1
  clear b1 o1
  have d0 : decide (J.t < 1) = false := decide_eq_false h0
  have d1 : decide (16 < J.t) = false := decide_eq_false h1
  have d2 : decide (J.o < 1) = true := decide_eq_true h2
  clear h0 h1 h2
  go_enter Tryd.func17, Tryd.ntmps17
  go_wp2_with fail
  go_ret
  exact ⟨by rw [hE.out]; rfl, O1.out⟩

set_option maxHeartbeats 8000000 in
theorem rcj3 (J : Jb) (w : World) (h0 : ¬ (J.t < 1)) (h1 : ¬ (16 < J.t)) (h2 : ¬ (J.o < 1)) (h3 : 8 < J.o) : Calls Tryd.prog 17 #[.agg (jobV J)] w fun e w' => e = .returned (.int .i64 (jobE J)) ∧ Only [] w w' := by
  have hE := hide (jobE_row (J := J) (q := 1) (by omega) (.inr (show 8 < J.o from h3)))
  have b1 := Blk.new w 46 (jobV J)
  have o1 := (Only.refl [] w).alloc (.cells (jobV J) 46)
  unfold jobV at b1 o1
  unfold jobV
  have x0 := b1.cell 0
  have x1 := b1.cell 1
  have x2 := b1.cell 2
  have x3 := b1.cell 3
  have x4 := b1.cell 4
  have x5 := b1.cell 5
  have x6 := b1.cell 6
  have x7 := b1.cell 7
  have B1 := hide b1
  have O1 := hide o1
  clear b1 o1
  have d0 : decide (J.t < 1) = false := decide_eq_false h0
  have d1 : decide (16 < J.t) = false := decide_eq_false h1
  have d2 : decide (J.o < 1) = false := decide_eq_false h2
  have d3 : decide (8 < J.o) = true := decide_eq_true h3
  clear h0 h1 h2 h3
  go_enter Tryd.func17, Tryd.ntmps17
  go_wp2_with fail
  go_ret
  exact ⟨by rw [hE.out]; rfl, O1.out⟩

set_option maxHeartbeats 8000000 in
theorem rcj4 (J : Jb) (w : World) (h0 : ¬ (J.t < 1)) (h1 : ¬ (16 < J.t)) (h2 : ¬ (J.o < 1)) (h3 : ¬ (8 < J.o)) (h4 : J.s < 1) : Calls Tryd.prog 17 #[.agg (jobV J)] w fun e w' => e = .returned (.int .i64 (jobE J)) ∧ Only [] w w' := by
  have hE := hide (jobE_row (J := J) (q := 2) (by omega) (.inl (show J.s < 1 from h4)))
  have b1 := Blk.new w 46 (jobV J)
  have o1 := (Only.refl [] w).alloc (.cells (jobV J) 46)
  unfold jobV at b1 o1
  unfold jobV
  have x0 := b1.cell 0
  have x1 := b1.cell 1
  have x2 := b1.cell 2
  have x3 := b1.cell 3
  have x4 := b1.cell 4
  have x5 := b1.cell 5
  have x6 := b1.cell 6
  have x7 := b1.cell 7
  have B1 := hide b1
  have O1 := hide o1
  clear b1 o1
  have d0 : decide (J.t < 1) = false := decide_eq_false h0
  have d1 : decide (16 < J.t) = false := decide_eq_false h1
  have d2 : decide (J.o < 1) = false := decide_eq_false h2
  have d3 : decide (8 < J.o) = false := decide_eq_false h3
  have d4 : decide (J.s < 1) = true := decide_eq_true h4
  clear h0 h1 h2 h3 h4
  go_enter Tryd.func17, Tryd.ntmps17
  go_wp2_with fail
  go_ret
  exact ⟨by rw [hE.out]; rfl, O1.out⟩

set_option maxHeartbeats 8000000 in
theorem rcj5 (J : Jb) (w : World) (h0 : ¬ (J.t < 1)) (h1 : ¬ (16 < J.t)) (h2 : ¬ (J.o < 1)) (h3 : ¬ (8 < J.o)) (h4 : ¬ (J.s < 1)) (h5 : 32 < J.s) : Calls Tryd.prog 17 #[.agg (jobV J)] w fun e w' => e = .returned (.int .i64 (jobE J)) ∧ Only [] w w' := by
  have hE := hide (jobE_row (J := J) (q := 2) (by omega) (.inr (show 32 < J.s from h5)))
  have b1 := Blk.new w 46 (jobV J)
  have o1 := (Only.refl [] w).alloc (.cells (jobV J) 46)
  unfold jobV at b1 o1
  unfold jobV
  have x0 := b1.cell 0
  have x1 := b1.cell 1
  have x2 := b1.cell 2
  have x3 := b1.cell 3
  have x4 := b1.cell 4
  have x5 := b1.cell 5
  have x6 := b1.cell 6
  have x7 := b1.cell 7
  have B1 := hide b1
  have O1 := hide o1
  clear b1 o1
  have d0 : decide (J.t < 1) = false := decide_eq_false h0
  have d1 : decide (16 < J.t) = false := decide_eq_false h1
  have d2 : decide (J.o < 1) = false := decide_eq_false h2
  have d3 : decide (8 < J.o) = false := decide_eq_false h3
  have d4 : decide (J.s < 1) = false := decide_eq_false h4
  have d5 : decide (32 < J.s) = true := decide_eq_true h5
  clear h0 h1 h2 h3 h4 h5
  go_enter Tryd.func17, Tryd.ntmps17
  go_wp2_with fail
  go_ret
  exact ⟨by rw [hE.out]; rfl, O1.out⟩

set_option maxHeartbeats 8000000 in
theorem rcj6 (J : Jb) (w : World) (h0 : ¬ (J.t < 1)) (h1 : ¬ (16 < J.t)) (h2 : ¬ (J.o < 1)) (h3 : ¬ (8 < J.o)) (h4 : ¬ (J.s < 1)) (h5 : ¬ (32 < J.s)) (h6 : J.q < 1) : Calls Tryd.prog 17 #[.agg (jobV J)] w fun e w' => e = .returned (.int .i64 (jobE J)) ∧ Only [] w w' := by
  have hE := hide (jobE_row (J := J) (q := 3) (by omega) (.inl (show J.q < 1 from h6)))
  have b1 := Blk.new w 46 (jobV J)
  have o1 := (Only.refl [] w).alloc (.cells (jobV J) 46)
  unfold jobV at b1 o1
  unfold jobV
  have x0 := b1.cell 0
  have x1 := b1.cell 1
  have x2 := b1.cell 2
  have x3 := b1.cell 3
  have x4 := b1.cell 4
  have x5 := b1.cell 5
  have x6 := b1.cell 6
  have x7 := b1.cell 7
  have B1 := hide b1
  have O1 := hide o1
  clear b1 o1
  have d0 : decide (J.t < 1) = false := decide_eq_false h0
  have d1 : decide (16 < J.t) = false := decide_eq_false h1
  have d2 : decide (J.o < 1) = false := decide_eq_false h2
  have d3 : decide (8 < J.o) = false := decide_eq_false h3
  have d4 : decide (J.s < 1) = false := decide_eq_false h4
  have d5 : decide (32 < J.s) = false := decide_eq_false h5
  have d6 : decide (J.q < 1) = true := decide_eq_true h6
  clear h0 h1 h2 h3 h4 h5 h6
  go_enter Tryd.func17, Tryd.ntmps17
  go_wp2_with fail
  go_ret
  exact ⟨by rw [hE.out]; rfl, O1.out⟩

set_option maxHeartbeats 8000000 in
theorem rcj7 (J : Jb) (w : World) (h0 : ¬ (J.t < 1)) (h1 : ¬ (16 < J.t)) (h2 : ¬ (J.o < 1)) (h3 : ¬ (8 < J.o)) (h4 : ¬ (J.s < 1)) (h5 : ¬ (32 < J.s)) (h6 : ¬ (J.q < 1)) (h7 : 100 < J.q) : Calls Tryd.prog 17 #[.agg (jobV J)] w fun e w' => e = .returned (.int .i64 (jobE J)) ∧ Only [] w w' := by
  have hE := hide (jobE_row (J := J) (q := 3) (by omega) (.inr (show 100 < J.q from h7)))
  have b1 := Blk.new w 46 (jobV J)
  have o1 := (Only.refl [] w).alloc (.cells (jobV J) 46)
  unfold jobV at b1 o1
  unfold jobV
  have x0 := b1.cell 0
  have x1 := b1.cell 1
  have x2 := b1.cell 2
  have x3 := b1.cell 3
  have x4 := b1.cell 4
  have x5 := b1.cell 5
  have x6 := b1.cell 6
  have x7 := b1.cell 7
  have B1 := hide b1
  have O1 := hide o1
  clear b1 o1
  have d0 : decide (J.t < 1) = false := decide_eq_false h0
  have d1 : decide (16 < J.t) = false := decide_eq_false h1
  have d2 : decide (J.o < 1) = false := decide_eq_false h2
  have d3 : decide (8 < J.o) = false := decide_eq_false h3
  have d4 : decide (J.s < 1) = false := decide_eq_false h4
  have d5 : decide (32 < J.s) = false := decide_eq_false h5
  have d6 : decide (J.q < 1) = false := decide_eq_false h6
  have d7 : decide (100 < J.q) = true := decide_eq_true h7
  clear h0 h1 h2 h3 h4 h5 h6 h7
  go_enter Tryd.func17, Tryd.ntmps17
  go_wp2_with fail
  go_ret
  exact ⟨by rw [hE.out]; rfl, O1.out⟩

set_option maxHeartbeats 8000000 in
theorem rcj8 (J : Jb) (w : World) (h0 : ¬ (J.t < 1)) (h1 : ¬ (16 < J.t)) (h2 : ¬ (J.o < 1)) (h3 : ¬ (8 < J.o)) (h4 : ¬ (J.s < 1)) (h5 : ¬ (32 < J.s)) (h6 : ¬ (J.q < 1)) (h7 : ¬ (100 < J.q)) (h8 : J.m < 256) : Calls Tryd.prog 17 #[.agg (jobV J)] w fun e w' => e = .returned (.int .i64 (jobE J)) ∧ Only [] w w' := by
  have hE := hide (jobE_row (J := J) (q := 4) (by omega) (.inl (show J.m < 256 from h8)))
  have b1 := Blk.new w 46 (jobV J)
  have o1 := (Only.refl [] w).alloc (.cells (jobV J) 46)
  unfold jobV at b1 o1
  unfold jobV
  have x0 := b1.cell 0
  have x1 := b1.cell 1
  have x2 := b1.cell 2
  have x3 := b1.cell 3
  have x4 := b1.cell 4
  have x5 := b1.cell 5
  have x6 := b1.cell 6
  have x7 := b1.cell 7
  have B1 := hide b1
  have O1 := hide o1
  clear b1 o1
  have d0 : decide (J.t < 1) = false := decide_eq_false h0
  have d1 : decide (16 < J.t) = false := decide_eq_false h1
  have d2 : decide (J.o < 1) = false := decide_eq_false h2
  have d3 : decide (8 < J.o) = false := decide_eq_false h3
  have d4 : decide (J.s < 1) = false := decide_eq_false h4
  have d5 : decide (32 < J.s) = false := decide_eq_false h5
  have d6 : decide (J.q < 1) = false := decide_eq_false h6
  have d7 : decide (100 < J.q) = false := decide_eq_false h7
  have d8 : decide (J.m < 256) = true := decide_eq_true h8
  clear h0 h1 h2 h3 h4 h5 h6 h7 h8
  go_enter Tryd.func17, Tryd.ntmps17
  go_wp2_with fail
  go_ret
  exact ⟨by rw [hE.out]; rfl, O1.out⟩

set_option maxHeartbeats 8000000 in
theorem rcj9 (J : Jb) (w : World) (h0 : ¬ (J.t < 1)) (h1 : ¬ (16 < J.t)) (h2 : ¬ (J.o < 1)) (h3 : ¬ (8 < J.o)) (h4 : ¬ (J.s < 1)) (h5 : ¬ (32 < J.s)) (h6 : ¬ (J.q < 1)) (h7 : ¬ (100 < J.q)) (h8 : ¬ (J.m < 256)) (h9 : 65536 < J.m) : Calls Tryd.prog 17 #[.agg (jobV J)] w fun e w' => e = .returned (.int .i64 (jobE J)) ∧ Only [] w w' := by
  have hE := hide (jobE_row (J := J) (q := 4) (by omega) (.inr (show 65536 < J.m from h9)))
  have b1 := Blk.new w 46 (jobV J)
  have o1 := (Only.refl [] w).alloc (.cells (jobV J) 46)
  unfold jobV at b1 o1
  unfold jobV
  have x0 := b1.cell 0
  have x1 := b1.cell 1
  have x2 := b1.cell 2
  have x3 := b1.cell 3
  have x4 := b1.cell 4
  have x5 := b1.cell 5
  have x6 := b1.cell 6
  have x7 := b1.cell 7
  have B1 := hide b1
  have O1 := hide o1
  clear b1 o1
  have d0 : decide (J.t < 1) = false := decide_eq_false h0
  have d1 : decide (16 < J.t) = false := decide_eq_false h1
  have d2 : decide (J.o < 1) = false := decide_eq_false h2
  have d3 : decide (8 < J.o) = false := decide_eq_false h3
  have d4 : decide (J.s < 1) = false := decide_eq_false h4
  have d5 : decide (32 < J.s) = false := decide_eq_false h5
  have d6 : decide (J.q < 1) = false := decide_eq_false h6
  have d7 : decide (100 < J.q) = false := decide_eq_false h7
  have d8 : decide (J.m < 256) = false := decide_eq_false h8
  have d9 : decide (65536 < J.m) = true := decide_eq_true h9
  clear h0 h1 h2 h3 h4 h5 h6 h7 h8 h9
  go_enter Tryd.func17, Tryd.ntmps17
  go_wp2_with fail
  go_ret
  exact ⟨by rw [hE.out]; rfl, O1.out⟩

set_option maxHeartbeats 8000000 in
theorem rcj10 (J : Jb) (w : World) (h0 : ¬ (J.t < 1)) (h1 : ¬ (16 < J.t)) (h2 : ¬ (J.o < 1)) (h3 : ¬ (8 < J.o)) (h4 : ¬ (J.s < 1)) (h5 : ¬ (32 < J.s)) (h6 : ¬ (J.q < 1)) (h7 : ¬ (100 < J.q)) (h8 : ¬ (J.m < 256)) (h9 : ¬ (65536 < J.m)) (h10 : ¬ J.m.tmod 8 = 0) : Calls Tryd.prog 17 #[.agg (jobV J)] w fun e w' => e = .returned (.int .i64 (jobE J)) ∧ Only [] w w' := by
  have hE := hide (jobE_row (J := J) (q := 8) (by omega) (by show (J.m.tmod 8 < 0 ∨ 0 < J.m.tmod 8); omega))
  have b1 := Blk.new w 46 (jobV J)
  have o1 := (Only.refl [] w).alloc (.cells (jobV J) 46)
  unfold jobV at b1 o1
  unfold jobV
  have x0 := b1.cell 0
  have x1 := b1.cell 1
  have x2 := b1.cell 2
  have x3 := b1.cell 3
  have x4 := b1.cell 4
  have x5 := b1.cell 5
  have x6 := b1.cell 6
  have x7 := b1.cell 7
  have B1 := hide b1
  have O1 := hide o1
  clear b1 o1
  have d0 : decide (J.t < 1) = false := decide_eq_false h0
  have d1 : decide (16 < J.t) = false := decide_eq_false h1
  have d2 : decide (J.o < 1) = false := decide_eq_false h2
  have d3 : decide (8 < J.o) = false := decide_eq_false h3
  have d4 : decide (J.s < 1) = false := decide_eq_false h4
  have d5 : decide (32 < J.s) = false := decide_eq_false h5
  have d6 : decide (J.q < 1) = false := decide_eq_false h6
  have d7 : decide (100 < J.q) = false := decide_eq_false h7
  have d8 : decide (J.m < 256) = false := decide_eq_false h8
  have d9 : decide (65536 < J.m) = false := decide_eq_false h9
  have d10 : (J.m.tmod 8 != 0) = true := by simpa using h10
  clear h0 h1 h2 h3 h4 h5 h6 h7 h8 h9 h10
  go_enter Tryd.func17, Tryd.ntmps17
  go_wp2_with fail
  go_ret
  exact ⟨by rw [hE.out]; rfl, O1.out⟩

set_option maxHeartbeats 8000000 in
theorem rcj11 (J : Jb) (w : World) (h0 : ¬ (J.t < 1)) (h1 : ¬ (16 < J.t)) (h2 : ¬ (J.o < 1)) (h3 : ¬ (8 < J.o)) (h4 : ¬ (J.s < 1)) (h5 : ¬ (32 < J.s)) (h6 : ¬ (J.q < 1)) (h7 : ¬ (100 < J.q)) (h8 : ¬ (J.m < 256)) (h9 : ¬ (65536 < J.m)) (h10 : ¬ (¬ J.m.tmod 8 = 0)) (h11 : J.p < 1) : Calls Tryd.prog 17 #[.agg (jobV J)] w fun e w' => e = .returned (.int .i64 (jobE J)) ∧ Only [] w w' := by
  have hE := hide (jobE_row (J := J) (q := 5) (by omega) (.inl (show J.p < 1 from h11)))
  have b1 := Blk.new w 46 (jobV J)
  have o1 := (Only.refl [] w).alloc (.cells (jobV J) 46)
  unfold jobV at b1 o1
  unfold jobV
  have x0 := b1.cell 0
  have x1 := b1.cell 1
  have x2 := b1.cell 2
  have x3 := b1.cell 3
  have x4 := b1.cell 4
  have x5 := b1.cell 5
  have x6 := b1.cell 6
  have x7 := b1.cell 7
  have B1 := hide b1
  have O1 := hide o1
  clear b1 o1
  have d0 : decide (J.t < 1) = false := decide_eq_false h0
  have d1 : decide (16 < J.t) = false := decide_eq_false h1
  have d2 : decide (J.o < 1) = false := decide_eq_false h2
  have d3 : decide (8 < J.o) = false := decide_eq_false h3
  have d4 : decide (J.s < 1) = false := decide_eq_false h4
  have d5 : decide (32 < J.s) = false := decide_eq_false h5
  have d6 : decide (J.q < 1) = false := decide_eq_false h6
  have d7 : decide (100 < J.q) = false := decide_eq_false h7
  have d8 : decide (J.m < 256) = false := decide_eq_false h8
  have d9 : decide (65536 < J.m) = false := decide_eq_false h9
  have d10 : (J.m.tmod 8 != 0) = false := by simpa using h10
  have d11 : decide (J.p < 1) = true := decide_eq_true h11
  clear h0 h1 h2 h3 h4 h5 h6 h7 h8 h9 h10 h11
  go_enter Tryd.func17, Tryd.ntmps17
  go_wp2_with fail
  go_ret
  exact ⟨by rw [hE.out]; rfl, O1.out⟩

set_option maxHeartbeats 8000000 in
theorem rcj12 (J : Jb) (w : World) (h0 : ¬ (J.t < 1)) (h1 : ¬ (16 < J.t)) (h2 : ¬ (J.o < 1)) (h3 : ¬ (8 < J.o)) (h4 : ¬ (J.s < 1)) (h5 : ¬ (32 < J.s)) (h6 : ¬ (J.q < 1)) (h7 : ¬ (100 < J.q)) (h8 : ¬ (J.m < 256)) (h9 : ¬ (65536 < J.m)) (h10 : ¬ (¬ J.m.tmod 8 = 0)) (h11 : ¬ (J.p < 1)) (h12 : 31 < J.p) : Calls Tryd.prog 17 #[.agg (jobV J)] w fun e w' => e = .returned (.int .i64 (jobE J)) ∧ Only [] w w' := by
  have hE := hide (jobE_row (J := J) (q := 5) (by omega) (.inr (show 31 < J.p from h12)))
  have b1 := Blk.new w 46 (jobV J)
  have o1 := (Only.refl [] w).alloc (.cells (jobV J) 46)
  unfold jobV at b1 o1
  unfold jobV
  have x0 := b1.cell 0
  have x1 := b1.cell 1
  have x2 := b1.cell 2
  have x3 := b1.cell 3
  have x4 := b1.cell 4
  have x5 := b1.cell 5
  have x6 := b1.cell 6
  have x7 := b1.cell 7
  have B1 := hide b1
  have O1 := hide o1
  clear b1 o1
  have d0 : decide (J.t < 1) = false := decide_eq_false h0
  have d1 : decide (16 < J.t) = false := decide_eq_false h1
  have d2 : decide (J.o < 1) = false := decide_eq_false h2
  have d3 : decide (8 < J.o) = false := decide_eq_false h3
  have d4 : decide (J.s < 1) = false := decide_eq_false h4
  have d5 : decide (32 < J.s) = false := decide_eq_false h5
  have d6 : decide (J.q < 1) = false := decide_eq_false h6
  have d7 : decide (100 < J.q) = false := decide_eq_false h7
  have d8 : decide (J.m < 256) = false := decide_eq_false h8
  have d9 : decide (65536 < J.m) = false := decide_eq_false h9
  have d10 : (J.m.tmod 8 != 0) = false := by simpa using h10
  have d11 : decide (J.p < 1) = false := decide_eq_false h11
  have d12 : decide (31 < J.p) = true := decide_eq_true h12
  clear h0 h1 h2 h3 h4 h5 h6 h7 h8 h9 h10 h11 h12
  go_enter Tryd.func17, Tryd.ntmps17
  go_wp2_with fail
  go_ret
  exact ⟨by rw [hE.out]; rfl, O1.out⟩

set_option maxHeartbeats 8000000 in
theorem rcl0 (J : Jb) (w : World) (h0 : ¬ (J.t < 1)) (h1 : ¬ (16 < J.t)) (h2 : ¬ (J.o < 1)) (h3 : ¬ (8 < J.o)) (h4 : ¬ (J.s < 1)) (h5 : ¬ (32 < J.s)) (h6 : ¬ (J.q < 1)) (h7 : ¬ (100 < J.q)) (h8 : ¬ (J.m < 256)) (h9 : ¬ (65536 < J.m)) (h10 : ¬ (¬ J.m.tmod 8 = 0)) (h11 : ¬ (J.p < 1)) (h12 : ¬ (31 < J.p)) (l0 : (J.pn : Int) < 1) : Calls Tryd.prog 17 #[.agg (jobV J)] w fun e w' => e = .returned (.int .i64 (jobE J)) ∧ Only [] w w' := by
  have hE := hide (jobE_row (J := J) (q := 6) (by omega) (.inl (show (J.pn : Int) < 1 from l0)))
  have b1 := Blk.new w 46 (jobV J)
  have o1 := (Only.refl [] w).alloc (.cells (jobV J) 46)
  unfold jobV at b1 o1
  unfold jobV
  have x0 := b1.cell 0
  have x1 := b1.cell 1
  have x2 := b1.cell 2
  have x3 := b1.cell 3
  have x4 := b1.cell 4
  have x5 := b1.cell 5
  have x6 := b1.cell 6
  have x7 := b1.cell 7
  have B1 := hide b1
  have O1 := hide o1
  clear b1 o1
  have d0 : decide (J.t < 1) = false := decide_eq_false h0
  have d1 : decide (16 < J.t) = false := decide_eq_false h1
  have d2 : decide (J.o < 1) = false := decide_eq_false h2
  have d3 : decide (8 < J.o) = false := decide_eq_false h3
  have d4 : decide (J.s < 1) = false := decide_eq_false h4
  have d5 : decide (32 < J.s) = false := decide_eq_false h5
  have d6 : decide (J.q < 1) = false := decide_eq_false h6
  have d7 : decide (100 < J.q) = false := decide_eq_false h7
  have d8 : decide (J.m < 256) = false := decide_eq_false h8
  have d9 : decide (65536 < J.m) = false := decide_eq_false h9
  have d10 : (J.m.tmod 8 != 0) = false := by simpa using h10
  have d11 : decide (J.p < 1) = false := decide_eq_false h11
  have d12 : decide (31 < J.p) = false := decide_eq_false h12
  have e0 : decide ((J.pn : Int) < 1) = true := decide_eq_true l0
  have i0 : decide (J.pn < 1) = true := decide_eq_true (by omega)
  clear h0 h1 h2 h3 h4 h5 h6 h7 h8 h9 h10 h11 h12 l0
  go_enter Tryd.func17, Tryd.ntmps17
  go_wp2_with fail
  go_ret
  exact ⟨by rw [hE.out]; rfl, O1.out⟩

set_option maxHeartbeats 8000000 in
theorem rcl1 (J : Jb) (w : World) (h0 : ¬ (J.t < 1)) (h1 : ¬ (16 < J.t)) (h2 : ¬ (J.o < 1)) (h3 : ¬ (8 < J.o)) (h4 : ¬ (J.s < 1)) (h5 : ¬ (32 < J.s)) (h6 : ¬ (J.q < 1)) (h7 : ¬ (100 < J.q)) (h8 : ¬ (J.m < 256)) (h9 : ¬ (65536 < J.m)) (h10 : ¬ (¬ J.m.tmod 8 = 0)) (h11 : ¬ (J.p < 1)) (h12 : ¬ (31 < J.p)) (l0 : ¬ ((J.pn : Int) < 1)) (l1 : 32 < (J.pn : Int)) : Calls Tryd.prog 17 #[.agg (jobV J)] w fun e w' => e = .returned (.int .i64 (jobE J)) ∧ Only [] w w' := by
  have hE := hide (jobE_row (J := J) (q := 6) (by omega) (.inr (show 32 < (J.pn : Int) from l1)))
  have b1 := Blk.new w 46 (jobV J)
  have o1 := (Only.refl [] w).alloc (.cells (jobV J) 46)
  unfold jobV at b1 o1
  unfold jobV
  have x0 := b1.cell 0
  have x1 := b1.cell 1
  have x2 := b1.cell 2
  have x3 := b1.cell 3
  have x4 := b1.cell 4
  have x5 := b1.cell 5
  have x6 := b1.cell 6
  have x7 := b1.cell 7
  have B1 := hide b1
  have O1 := hide o1
  clear b1 o1
  have d0 : decide (J.t < 1) = false := decide_eq_false h0
  have d1 : decide (16 < J.t) = false := decide_eq_false h1
  have d2 : decide (J.o < 1) = false := decide_eq_false h2
  have d3 : decide (8 < J.o) = false := decide_eq_false h3
  have d4 : decide (J.s < 1) = false := decide_eq_false h4
  have d5 : decide (32 < J.s) = false := decide_eq_false h5
  have d6 : decide (J.q < 1) = false := decide_eq_false h6
  have d7 : decide (100 < J.q) = false := decide_eq_false h7
  have d8 : decide (J.m < 256) = false := decide_eq_false h8
  have d9 : decide (65536 < J.m) = false := decide_eq_false h9
  have d10 : (J.m.tmod 8 != 0) = false := by simpa using h10
  have d11 : decide (J.p < 1) = false := decide_eq_false h11
  have d12 : decide (31 < J.p) = false := decide_eq_false h12
  have e0 : decide ((J.pn : Int) < 1) = false := decide_eq_false l0
  have i0 : decide (J.pn < 1) = false := decide_eq_false (by omega)
  have e1 : decide (32 < (J.pn : Int)) = true := decide_eq_true l1
  have i1 : decide (32 < J.pn) = true := decide_eq_true (by omega)
  clear h0 h1 h2 h3 h4 h5 h6 h7 h8 h9 h10 h11 h12 l0 l1
  go_enter Tryd.func17, Tryd.ntmps17
  go_wp2_with fail
  go_ret
  exact ⟨by rw [hE.out]; rfl, O1.out⟩

set_option maxHeartbeats 8000000 in
theorem rcl2 (J : Jb) (w : World) (h0 : ¬ (J.t < 1)) (h1 : ¬ (16 < J.t)) (h2 : ¬ (J.o < 1)) (h3 : ¬ (8 < J.o)) (h4 : ¬ (J.s < 1)) (h5 : ¬ (32 < J.s)) (h6 : ¬ (J.q < 1)) (h7 : ¬ (100 < J.q)) (h8 : ¬ (J.m < 256)) (h9 : ¬ (65536 < J.m)) (h10 : ¬ (¬ J.m.tmod 8 = 0)) (h11 : ¬ (J.p < 1)) (h12 : ¬ (31 < J.p)) (l0 : ¬ ((J.pn : Int) < 1)) (l1 : ¬ (32 < (J.pn : Int))) (l2 : 32 < (J.tn : Int)) : Calls Tryd.prog 17 #[.agg (jobV J)] w fun e w' => e = .returned (.int .i64 (jobE J)) ∧ Only [] w w' := by
  have hE := hide (jobE_row (J := J) (q := 7) (by omega) (.inr (show 32 < (J.tn : Int) from l2)))
  have b1 := Blk.new w 46 (jobV J)
  have o1 := (Only.refl [] w).alloc (.cells (jobV J) 46)
  unfold jobV at b1 o1
  unfold jobV
  have x0 := b1.cell 0
  have x1 := b1.cell 1
  have x2 := b1.cell 2
  have x3 := b1.cell 3
  have x4 := b1.cell 4
  have x5 := b1.cell 5
  have x6 := b1.cell 6
  have x7 := b1.cell 7
  have B1 := hide b1
  have O1 := hide o1
  clear b1 o1
  have d0 : decide (J.t < 1) = false := decide_eq_false h0
  have d1 : decide (16 < J.t) = false := decide_eq_false h1
  have d2 : decide (J.o < 1) = false := decide_eq_false h2
  have d3 : decide (8 < J.o) = false := decide_eq_false h3
  have d4 : decide (J.s < 1) = false := decide_eq_false h4
  have d5 : decide (32 < J.s) = false := decide_eq_false h5
  have d6 : decide (J.q < 1) = false := decide_eq_false h6
  have d7 : decide (100 < J.q) = false := decide_eq_false h7
  have d8 : decide (J.m < 256) = false := decide_eq_false h8
  have d9 : decide (65536 < J.m) = false := decide_eq_false h9
  have d10 : (J.m.tmod 8 != 0) = false := by simpa using h10
  have d11 : decide (J.p < 1) = false := decide_eq_false h11
  have d12 : decide (31 < J.p) = false := decide_eq_false h12
  have e0 : decide ((J.pn : Int) < 1) = false := decide_eq_false l0
  have i0 : decide (J.pn < 1) = false := decide_eq_false (by omega)
  have e1 : decide (32 < (J.pn : Int)) = false := decide_eq_false l1
  have i1 : decide (32 < J.pn) = false := decide_eq_false (by omega)
  have e2 : decide (32 < (J.tn : Int)) = true := decide_eq_true l2
  have i2 : decide (32 < J.tn) = true := decide_eq_true (by omega)
  clear h0 h1 h2 h3 h4 h5 h6 h7 h8 h9 h10 h11 h12 l0 l1 l2
  go_enter Tryd.func17, Tryd.ntmps17
  go_wp2_with fail
  go_ret
  exact ⟨by rw [hE.out]; rfl, O1.out⟩

set_option maxHeartbeats 16000000 in
theorem rcj_loops (J : Jb) (w : World) (hJ : JbAt w J) (h0 : ¬ (J.t < 1)) (h1 : ¬ (16 < J.t)) (h2 : ¬ (J.o < 1)) (h3 : ¬ (8 < J.o)) (h4 : ¬ (J.s < 1)) (h5 : ¬ (32 < J.s)) (h6 : ¬ (J.q < 1)) (h7 : ¬ (100 < J.q)) (h8 : ¬ (J.m < 256)) (h9 : ¬ (65536 < J.m)) (h10 : ¬ (¬ J.m.tmod 8 = 0)) (h11 : ¬ (J.p < 1)) (h12 : ¬ (31 < J.p)) (l0 : ¬ ((J.pn : Int) < 1)) (l1 : ¬ (32 < (J.pn : Int))) (l2 : ¬ (32 < (J.tn : Int))) : Calls Tryd.prog 17 #[.agg (jobV J)] w fun e w' => e = .returned (.int .i64 (jobE J)) ∧ Only [] w w' := by
  obtain ⟨hP, hT, hpn, htn⟩ := hJ
  have HP := hide hP
  have HT := hide hT
  have HR := hide (show rowsP J from fun q hq => by
    rcases (by omega : q = 0 ∨ q = 1 ∨ q = 2 ∨ q = 3 ∨ q = 4 ∨ q = 5 ∨ q = 6 ∨ q = 7 ∨ q = 8) with h | h | h | h | h | h | h | h | h
    all_goals (subst h; simp only [lo9, hi9, v9]; omega))
  unfold maxLen at hpn htn
  have b1 := Blk.new w 46 (jobV J)
  have o1 := (Only.refl [] w).alloc (.cells (jobV J) 46)
  unfold jobV at b1 o1
  unfold jobV
  have x0 := b1.cell 0
  have x1 := b1.cell 1
  have x2 := b1.cell 2
  have x3 := b1.cell 3
  have x4 := b1.cell 4
  have x5 := b1.cell 5
  have x6 := b1.cell 6
  have x7 := b1.cell 7
  have B1 := hide b1
  have O1 := hide o1
  clear b1 o1
  have d0 : decide (J.t < 1) = false := decide_eq_false h0
  have d1 : decide (16 < J.t) = false := decide_eq_false h1
  have d2 : decide (J.o < 1) = false := decide_eq_false h2
  have d3 : decide (8 < J.o) = false := decide_eq_false h3
  have d4 : decide (J.s < 1) = false := decide_eq_false h4
  have d5 : decide (32 < J.s) = false := decide_eq_false h5
  have d6 : decide (J.q < 1) = false := decide_eq_false h6
  have d7 : decide (100 < J.q) = false := decide_eq_false h7
  have d8 : decide (J.m < 256) = false := decide_eq_false h8
  have d9 : decide (65536 < J.m) = false := decide_eq_false h9
  have d10 : (J.m.tmod 8 != 0) = false := by simpa using h10
  have d11 : decide (J.p < 1) = false := decide_eq_false h11
  have d12 : decide (31 < J.p) = false := decide_eq_false h12
  have e0 : decide ((J.pn : Int) < 1) = false := decide_eq_false l0
  have i0 : decide (J.pn < 1) = false := decide_eq_false (by omega)
  have e1 : decide (32 < (J.pn : Int)) = false := decide_eq_false l1
  have i1 : decide (32 < J.pn) = false := decide_eq_false (by omega)
  have e2 : decide (32 < (J.tn : Int)) = false := decide_eq_false l2
  have i2 : decide (32 < J.tn) = false := decide_eq_false (by omega)
  clear hP hT h0 h1 h2 h3 h4 h5 h6 h7 h8 h9 h10 h11 h12 l0 l1 l2
  go_enter Tryd.func17, Tryd.ntmps17
  go_wp2_with fail
  clear d0 d1 d2 d3 d4 d5 d6 d7 d8 d9 d10 d11 d12 e0 e1 e2 i0 i1 i2 x0 x1 x2 x3 x4 x5 x6 x7
  obtain ⟨X, hX⟩ : ∃ X, w.heap.size = X := ⟨_, rfl⟩
  rw [hX] at B1
  simp only [hX]
  obtain ⟨V, hV⟩ : ∃ V, w.alloc (.cells #[.int .i64 J.t, .int .i64 J.o, .int .i64 J.s, .int .i64 J.q, .int .i64 J.m, .int .i64 J.p, .slice J.pA J.pn J.pc, .slice J.tA J.tn J.tc] 46) = V := ⟨_, rfl⟩
  rw [hV] at B1 O1 ⊢
  clear hX hV
  go_loopw [3] (fun v3 wr => ∃ q : Nat, q ≤ J.pn ∧ v3 = .int .i64 q ∧ Hid (∀ j, j < q → badG J.P j = false) ∧ Hid (Only [] V wr)) (fun v3 _ => J.pn - (intOf v3).toNat)
  case atStart => exact ⟨0, by omega, rfl, hide (fun j hj => by omega), hide (Only.refl _ _)⟩
  case round =>
    obtain ⟨q, hq, rfl, hz, hO⟩ := hrel
    have bJ := B1.out.only hO.out (by simp)
    have y6 := bJ.cell 6
    have BJ := hide bJ
    have OW := hide (O1.out.trans0 hO.out)
    clear bJ
    by_cases hqn : q < J.pn
    · obtain ⟨a, hA, m0, m1, m2⟩ := HP.out q hqn
      rw [hA] at y6
      have c0 := OW.out.keep0 m0
      obtain ⟨xx, hx⟩ := chkV_bad (J.P q).n (J.P q).f
      have CK := rcheck_any (J.P q).A (J.P q).n (J.P q).c (J.P q).f wr (m2.only0 OW.out) m1
      rw [hx] at CK
      obtain ⟨b, hb⟩ : ∃ b, badP (J.P q).n (J.P q).f = b := ⟨_, rfl⟩
      rw [hb] at CK
      have CK := hide CK
      have HB := hide (show badG J.P q = b from hb)
      have j0 : (0 : Int) ≤ (q : Int) := by omega
      have j1 : (q : Int) < (J.pn : Int) := by omega
      clear m0 m2 hx hb hA
      cases b with
      | false =>
        go_wp2_with (go_at_call 44; (with_reducible refine CK.out.mono ?_); rintro e w1 ⟨rfl, o⟩; have O2 := hide (hO.out.trans0 o); clear o)
        go_roundw
        case rel => exact ⟨q + 1, by omega, by go_num, hide (fun j hj => by
          rcases (by omega : j < q ∨ j = q) with h | h
          · exact hz.out j h
          · subst h; exact HB.out), O2⟩
        case measure => simp [intOf]; omega
      | true =>
        have hE := hide (jobE_prog (J := J) (by rw [fb_at hqn HB.out hz.out]; omega))
        go_wp2_with (go_at_call 44; (with_reducible refine CK.out.mono ?_); rintro e w1 ⟨rfl, o⟩; have O2 := hide (OW.out.trans0 o); clear o)
        go_ret
        exact ⟨by rw [hE.out]; rfl, O2.out⟩
    · obtain rfl : q = J.pn := by omega
      have hfb := hide (fb_none hz.out)
      clear hqn hq
      go_wp2_with fail
      go_loopw [6] (fun v6 wt => ∃ q : Nat, q ≤ J.tn ∧ v6 = .int .i64 q ∧ Hid (∀ j, j < q → longG J.T j = false) ∧ wr = wt) (fun v6 _ => J.tn - (intOf v6).toNat)
      case atStart => exact ⟨0, by omega, rfl, hide (fun j hj => by omega), (by first | rfl | trivial)⟩
      case round =>
        obtain ⟨q, hq, rfl, hz2, hw⟩ := hrel
        obtain rfl := hw
        have y7 := BJ.out.cell 7
        by_cases hqn : q < J.tn
        · obtain ⟨a, hA, m0⟩ := HT.out q hqn
          rw [hA] at y7
          have c0 := OW.out.keep0 m0
          have j0 : (0 : Int) ≤ (q : Int) := by omega
          have j1 : (q : Int) < (J.tn : Int) := by omega
          clear m0 hA
          by_cases hl : 64 < (J.T q).size
          · have hE := hide (jobE_text (J := J) (by rw [fb_at hqn (show longG J.T q = true from decide_eq_true hl) hz2.out]; omega))
            have f0 : decide ((64 : Int) < ((J.T q).size : Int)) = true := decide_eq_true (by omega)
            have f1 : decide (64 < (J.T q).size) = true := decide_eq_true hl
            clear hl
            go_wp2_with fail
            go_ret
            exact ⟨by rw [hE.out]; rfl, OW.out⟩
          · have HB := hide (show longG J.T q = false from decide_eq_false hl)
            have f0 : decide ((64 : Int) < ((J.T q).size : Int)) = false := decide_eq_false (by omega)
            have f1 : decide (64 < (J.T q).size) = false := decide_eq_false hl
            clear hl
            go_wp2_with fail
            go_roundw
            case rel => exact ⟨q + 1, by omega, by go_num, hide (fun j hj => by
              rcases (by omega : j < q ∨ j = q) with h | h
              · exact hz2.out j h
              · subst h; exact HB.out), (by first | rfl | trivial)⟩
            case measure => simp [intOf]; omega
        · obtain rfl : q = J.tn := by omega
          have hE := hide (jobE_ok HR.out (by rw [hfb.out]; omega) (by rw [fb_none hz2.out]; omega))
          clear hqn hq
          go_wp2_with fail
          go_ret
          exact ⟨by rw [hE.out]; rfl, OW.out⟩

theorem rcheckjob_any (J : Jb) (w : World) (hJ : JbAt w J) : Calls Tryd.prog 17 #[.agg (jobV J)] w fun e w' => e = .returned (.int .i64 (jobE J)) ∧ Only [] w w' := by
  by_cases h0 : J.t < 1
  · exact rcj0 J w h0
  by_cases h1 : 16 < J.t
  · exact rcj1 J w h0 h1
  by_cases h2 : J.o < 1
  · exact rcj2 J w h0 h1 h2
  by_cases h3 : 8 < J.o
  · exact rcj3 J w h0 h1 h2 h3
  by_cases h4 : J.s < 1
  · exact rcj4 J w h0 h1 h2 h3 h4
  by_cases h5 : 32 < J.s
  · exact rcj5 J w h0 h1 h2 h3 h4 h5
  by_cases h6 : J.q < 1
  · exact rcj6 J w h0 h1 h2 h3 h4 h5 h6
  by_cases h7 : 100 < J.q
  · exact rcj7 J w h0 h1 h2 h3 h4 h5 h6 h7
  by_cases h8 : J.m < 256
  · exact rcj8 J w h0 h1 h2 h3 h4 h5 h6 h7 h8
  by_cases h9 : 65536 < J.m
  · exact rcj9 J w h0 h1 h2 h3 h4 h5 h6 h7 h8 h9
  by_cases h10 : ¬ J.m.tmod 8 = 0
  · exact rcj10 J w h0 h1 h2 h3 h4 h5 h6 h7 h8 h9 h10
  by_cases h11 : J.p < 1
  · exact rcj11 J w h0 h1 h2 h3 h4 h5 h6 h7 h8 h9 h10 h11
  by_cases h12 : 31 < J.p
  · exact rcj12 J w h0 h1 h2 h3 h4 h5 h6 h7 h8 h9 h10 h11 h12
  by_cases l0 : (J.pn : Int) < 1
  · exact rcl0 J w h0 h1 h2 h3 h4 h5 h6 h7 h8 h9 h10 h11 h12 l0
  by_cases l1 : 32 < (J.pn : Int)
  · exact rcl1 J w h0 h1 h2 h3 h4 h5 h6 h7 h8 h9 h10 h11 h12 l0 l1
  by_cases l2 : 32 < (J.tn : Int)
  · exact rcl2 J w h0 h1 h2 h3 h4 h5 h6 h7 h8 h9 h10 h11 h12 l0 l1 l2
  exact rcj_loops J w hJ h0 h1 h2 h3 h4 h5 h6 h7 h8 h9 h10 h11 h12 l0 l1 l2

end Go.Proofs.YtmaljajdmgkakaaDoor
