/- Code: the walk of known. Condition: Env. -/
import Derived.Test.YtmaljajdmgkakaaGreatDoorCdD
import Derived.Test.YtmaljajdmgkakaaGreatDoorCdE
namespace Go.Proofs.YtmaljajdmgkakaaGreatDoor
open Go.RowKit
set_option linter.unusedVariables false
set_option linter.all false
set_option maxRecDepth 20000

theorem kl0 (w : World) (he : Env w) : Calls Tryz.prog 10 #[.agg #[.int .i64 (1), .int .i64 (1), .int .i64 (0), .int .i64 (0), .int .i64 (-5)]] w fun e w' => e = .returned (.tuple #[.string (bs [115, 101, 116, 32, 114, 49, 32, 45, 53]), .int .i64 0]) ∧ Only [] w w' := by
  have := line_any ⟨1, 1, 0, 0, -5⟩ w he (by decide) (by decide)
  rw [show mayI ⟨1, 1, 0, 0, -5⟩ 256 = true by decide +kernel, show lineB ⟨1, 1, 0, 0, -5⟩ = [115, 101, 116, 32, 114, 49, 32, 45, 53] by decide +kernel] at this
  exact this
theorem kl1 (w : World) (he : Env w) : Calls Tryz.prog 10 #[.agg #[.int .i64 (6), .int .i64 (0), .int .i64 (2), .int .i64 (0), .int .i64 (7)]] w fun e w' => e = .returned (.tuple #[.string (bs [122, 101, 114, 111, 32, 114, 50, 32, 55]), .int .i64 0]) ∧ Only [] w w' := by
  have := line_any ⟨6, 0, 2, 0, 7⟩ w he (by decide) (by decide)
  rw [show mayI ⟨6, 0, 2, 0, 7⟩ 256 = true by decide +kernel, show lineB ⟨6, 0, 2, 0, 7⟩ = [122, 101, 114, 111, 32, 114, 50, 32, 55] by decide +kernel] at this
  exact this
theorem kl2 (w : World) (he : Env w) : Calls Tryz.prog 10 #[.agg #[.int .i64 (2), .int .i64 (8), .int .i64 (0), .int .i64 (0), .int .i64 (0)]] w fun e w' => e = .returned (.tuple #[.string (bs []), .int .i64 2]) ∧ Only [] w w' := by
  have := line_any ⟨2, 8, 0, 0, 0⟩ w he (by decide) (by decide)
  rw [show mayI ⟨2, 8, 0, 0, 0⟩ 256 = false by decide +kernel] at this
  exact this
theorem kp0 (w : World) (he : Env w) (hw4 : 4 ≤ w.heap.size) : Calls Tryz.prog 29 #[.string ⟨#[97, 100, 100, 32, 114, 49, 32, 114, 50, 32, 114, 51]⟩] w fun e w' => e = .returned (.tuple #[.agg #[.int .i64 (3), .int .i64 (1), .int .i64 (2), .int .i64 (3), .int .i64 (0)], .int .i64 0]) ∧ Only [] w w' := by
  have := parse_walk [97, 100, 100, 32, 114, 49, 32, 114, 50, 32, 114, 51] (by decide) w he hw4
  rw [show parP [97, 100, 100, 32, 114, 49, 32, 114, 50, 32, 114, 51] = some ⟨3, 1, 2, 3, 0⟩ by decide +kernel] at this
  exact this
theorem kp1 (w : World) (he : Env w) (hw4 : 4 ≤ w.heap.size) : Calls Tryz.prog 29 #[.string ⟨#[97, 100, 100, 32, 114, 49, 32, 114, 50]⟩] w fun e w' => e = .returned (.tuple #[.agg #[.int .i64 (0), .int .i64 (0), .int .i64 (0), .int .i64 (0), .int .i64 (0)], .int .i64 4]) ∧ Only [] w w' := by
  have := parse_walk [97, 100, 100, 32, 114, 49, 32, 114, 50] (by decide) w he hw4
  rw [show parP [97, 100, 100, 32, 114, 49, 32, 114, 50] = none by decide +kernel] at this
  exact this
theorem kp2 (w : World) (he : Env w) (hw4 : 4 ≤ w.heap.size) : Calls Tryz.prog 29 #[.string ⟨#[115, 101, 116, 32, 114, 49, 32, 48, 53]⟩] w fun e w' => e = .returned (.tuple #[.agg #[.int .i64 (0), .int .i64 (0), .int .i64 (0), .int .i64 (0), .int .i64 (0)], .int .i64 4]) ∧ Only [] w w' := by
  have := parse_walk [115, 101, 116, 32, 114, 49, 32, 48, 53] (by decide) w he hw4
  rw [show parP [115, 101, 116, 32, 114, 49, 32, 48, 53] = none by decide +kernel] at this
  exact this
theorem kp3 (w : World) (he : Env w) (hw4 : 4 ≤ w.heap.size) : Calls Tryz.prog 29 #[.string ⟨#[106, 117, 109, 112, 32, 50, 53, 55]⟩] w fun e w' => e = .returned (.tuple #[.agg #[.int .i64 (0), .int .i64 (0), .int .i64 (0), .int .i64 (0), .int .i64 (0)], .int .i64 4]) ∧ Only [] w w' := by
  have := parse_walk [106, 117, 109, 112, 32, 50, 53, 55] (by decide) w he hw4
  rw [show parP [106, 117, 109, 112, 32, 50, 53, 55] = none by decide +kernel] at this
  exact this
theorem ks0 (w : World) : Calls Tryz.prog 45 #[.agg #[.int .i64 (4), .int .i64 (0), .int .i64 (1), .int .i64 (2), .int .i64 (0)], .agg #[.int .i64 (3), .int .i64 (5), .int .i64 (7), .int .i64 (9), .int .i64 (0), .int .i64 (0), .int .i64 (0), .int .i64 (0), .int .i64 (0)]] w fun e w' => e = .returned (.tuple #[.agg #[.int .i64 (4), .int .i64 (-2), .int .i64 (7), .int .i64 (9), .int .i64 (0), .int .i64 (0), .int .i64 (0), .int .i64 (0), .int .i64 (0)], .bool true]) ∧ Only [] w w' := by
  have := step_any ⟨4, 0, 1, 2, 0⟩ 3 (fun i => ([5, 7, 9, 0, 0, 0, 0, 0] : List Int).getD i 0) w (by decide) (by decide)
  have hv : stepV ⟨4, 0, 1, 2, 0⟩ 3 (fun i => ([5, 7, 9, 0, 0, 0, 0, 0] : List Int).getD i 0) = .tuple #[.agg #[.int .i64 (4), .int .i64 (-2), .int .i64 (7), .int .i64 (9), .int .i64 (0), .int .i64 (0), .int .i64 (0), .int .i64 (0), .int .i64 (0)], .bool true] := by
    unfold stepV
    rw [show stepOk ⟨4, 0, 1, 2, 0⟩ = true by decide +kernel]
    kernel_rfl
  rw [hv] at this
  exact this
theorem ks1 (w : World) : Calls Tryz.prog 45 #[.agg #[.int .i64 (6), .int .i64 (0), .int .i64 (0), .int .i64 (0), .int .i64 (9)], .agg #[.int .i64 (3), .int .i64 (0), .int .i64 (0), .int .i64 (0), .int .i64 (0), .int .i64 (0), .int .i64 (0), .int .i64 (0), .int .i64 (0)]] w fun e w' => e = .returned (.tuple #[.agg #[.int .i64 (9), .int .i64 (0), .int .i64 (0), .int .i64 (0), .int .i64 (0), .int .i64 (0), .int .i64 (0), .int .i64 (0), .int .i64 (0)], .bool true]) ∧ Only [] w w' := by
  have := step_any ⟨6, 0, 0, 0, 9⟩ 3 (fun i => ([0, 0, 0, 0, 0, 0, 0, 0] : List Int).getD i 0) w (by decide) (by decide)
  have hv : stepV ⟨6, 0, 0, 0, 9⟩ 3 (fun i => ([0, 0, 0, 0, 0, 0, 0, 0] : List Int).getD i 0) = .tuple #[.agg #[.int .i64 (9), .int .i64 (0), .int .i64 (0), .int .i64 (0), .int .i64 (0), .int .i64 (0), .int .i64 (0), .int .i64 (0), .int .i64 (0)], .bool true] := by
    unfold stepV
    rw [show stepOk ⟨6, 0, 0, 0, 9⟩ = true by decide +kernel]
    kernel_rfl
  rw [hv] at this
  exact this
theorem ks2 (w : World) : Calls Tryz.prog 45 #[.agg #[.int .i64 (7), .int .i64 (0), .int .i64 (0), .int .i64 (0), .int .i64 (0)], .agg #[.int .i64 (0), .int .i64 (0), .int .i64 (0), .int .i64 (0), .int .i64 (0), .int .i64 (0), .int .i64 (0), .int .i64 (0), .int .i64 (0)]] w fun e w' => e = .returned (.tuple #[.agg #[.int .i64 (0), .int .i64 (0), .int .i64 (0), .int .i64 (0), .int .i64 (0), .int .i64 (0), .int .i64 (0), .int .i64 (0), .int .i64 (0)], .bool false]) ∧ Only [] w w' := by
  have := step_any ⟨7, 0, 0, 0, 0⟩ 0 (fun i => ([0, 0, 0, 0, 0, 0, 0, 0] : List Int).getD i 0) w (by decide) (by decide)
  have hv : stepV ⟨7, 0, 0, 0, 0⟩ 0 (fun i => ([0, 0, 0, 0, 0, 0, 0, 0] : List Int).getD i 0) = .tuple #[.agg #[.int .i64 (0), .int .i64 (0), .int .i64 (0), .int .i64 (0), .int .i64 (0), .int .i64 (0), .int .i64 (0), .int .i64 (0), .int .i64 (0)], .bool false] := by
    unfold stepV
    rw [show stepOk ⟨7, 0, 0, 0, 0⟩ = false by decide +kernel]
    kernel_rfl
  rw [hv] at this
  exact this
theorem kr0 (w : World) (he : Env w) (hw4 : 4 ≤ w.heap.size) : Calls Tryz.prog 8 #[.string ⟨#[106, 117, 109, 112, 32, 50, 10, 101, 110, 100, 10]⟩] w fun e w' => (∃ A c, e = .returned (.tuple #[.slice A 2 c, .int .i64 0, .int .i64 0])) ∧ Only [] w w' := by
  have hr : readR [106, 117, 109, 112, 32, 50, 10, 101, 110, 100, 10] = ([⟨5, 0, 0, 0, 2⟩, ⟨0, 0, 0, 0, 0⟩], 0, 0) := by decide +kernel
  have := read_walk [106, 117, 109, 112, 32, 50, 10, 101, 110, 100, 10] (by decide) w he hw4
  refine Calls.mono this ?_
  rintro e w' ⟨⟨A, c, p, n, er, h1, h2, h3⟩, h4⟩
  rw [hr] at h2
  injection h2 with h5 h6
  injection h6 with h6 h7
  subst h5 h6 h7
  exact ⟨⟨A, c, h1⟩, h4⟩
theorem kr1 (w : World) (he : Env w) (hw4 : 4 ≤ w.heap.size) : Calls Tryz.prog 8 #[.string ⟨#[106, 117, 109, 112, 32, 49, 10, 101, 110, 100]⟩] w fun e w' => (∃ A c, e = .returned (.tuple #[.slice A 0 c, .int .i64 1, .int .i64 4])) ∧ Only [] w w' := by
  have hr : readR [106, 117, 109, 112, 32, 49, 10, 101, 110, 100] = ([], 1, 4) := by decide +kernel
  have := read_walk [106, 117, 109, 112, 32, 49, 10, 101, 110, 100] (by decide) w he hw4
  refine Calls.mono this ?_
  rintro e w' ⟨⟨A, c, p, n, er, h1, h2, h3⟩, h4⟩
  rw [hr] at h2
  injection h2 with h5 h6
  injection h6 with h6 h7
  subst h5 h6 h7
  exact ⟨⟨A, c, h1⟩, h4⟩
theorem kr2 (w : World) (he : Env w) (hw4 : 4 ≤ w.heap.size) : Calls Tryz.prog 8 #[.string ⟨#[106, 117, 109, 112, 32, 51, 10, 101, 110, 100, 10]⟩] w fun e w' => (∃ A c, e = .returned (.tuple #[.slice A 0 c, .int .i64 0, .int .i64 4])) ∧ Only [] w w' := by
  have hr : readR [106, 117, 109, 112, 32, 51, 10, 101, 110, 100, 10] = ([], 0, 4) := by decide +kernel
  have := read_walk [106, 117, 109, 112, 32, 51, 10, 101, 110, 100, 10] (by decide) w he hw4
  refine Calls.mono this ?_
  rintro e w' ⟨⟨A, c, p, n, er, h1, h2, h3⟩, h4⟩
  rw [hr] at h2
  injection h2 with h5 h6
  injection h6 with h6 h7
  subst h5 h6 h7
  exact ⟨⟨A, c, h1⟩, h4⟩
theorem str1 : (bs [115, 101, 116, 32, 114, 49, 32, 45, 53]).toList = [115, 101, 116, 32, 114, 49, 32, 45, 53] := by rw [ByteArray.toList_eq, bs_list]
theorem str2 : (bs [122, 101, 114, 111, 32, 114, 50, 32, 55]).toList = [122, 101, 114, 111, 32, 114, 50, 32, 55] := by rw [ByteArray.toList_eq, bs_list]
set_option maxHeartbeats 16000000 in
theorem known_any (w : World) (he : Env w) (hw4 : 4 ≤ w.heap.size) : Calls Tryz.prog 13 #[] w fun e w' => e = .returned (.bool true) ∧ Only [] w w' := by
  have EN := hide (fun V (o : Only [] w V) => he.only o)
  have SZ := hide (fun V (o : Only [] w V) => show 4 ≤ V.heap.size by have := o.size; omega)
  have OZ0 := hide (Only.refl [] w)
  have e1 := str1
  have e2 := str2
  have q1 := fun W : World => show (binOp .eql 25 (.agg #[.int .i64 (3), .int .i64 (1), .int .i64 (2), .int .i64 (3), .int .i64 (0)]) (.agg #[.int .i64 (3), .int .i64 (1), .int .i64 (2), .int .i64 (3), .int .i64 (0)])).run Tryz.prog W = .ok (.bool true) W by kernel_rfl
  have q2 := fun W : World => show (Op.equalIn 9999 96 (.agg #[.int .i64 (-2), .int .i64 (7), .int .i64 (9), .int .i64 (0), .int .i64 (0), .int .i64 (0), .int .i64 (0), .int .i64 (0)]) (.agg #[.int .i64 (-2), .int .i64 (7), .int .i64 (9), .int .i64 (0), .int .i64 (0), .int .i64 (0), .int .i64 (0), .int .i64 (0)])).run Tryz.prog W = .ok true W by kernel_rfl
  clear he hw4
  go_enter Tryz.func13, Tryz.ntmps13
  go_wp2_with (first
    | (go_at_call 11; refine (num_any _ _).mono ?_; rintro e w' ⟨rfl, hw⟩; obtain rfl := hw.symm; clear hw)
    | (go_at_call 10; (with_reducible refine (kl0 _ (EN.out _ OZ0.out)).mono ?_); rintro e w1 ⟨rfl, o⟩; have OZ1 := hide (OZ0.out.trans0 o); clear OZ0 o)
    | (go_at_call 10; (with_reducible refine (kl1 _ (EN.out _ OZ1.out)).mono ?_); rintro e w2 ⟨rfl, o⟩; have OZ2 := hide (OZ1.out.trans0 o); clear OZ1 o)
    | (go_at_call 10; (with_reducible refine (kl2 _ (EN.out _ OZ2.out)).mono ?_); rintro e w3 ⟨rfl, o⟩; have OZ3 := hide (OZ2.out.trans0 o); clear OZ2 o)
    | (go_at_call 29; (with_reducible refine (kp0 _ (EN.out _ OZ3.out) (SZ.out _ OZ3.out)).mono ?_); rintro e w4 ⟨rfl, o⟩; have OZ4 := hide ((OZ3.out.trans0 o).alloc (.cells #[.int .i64 (3), .int .i64 (1), .int .i64 (2), .int .i64 (3), .int .i64 (0)] 25)); have T4 := hide (Blk.new w4 25 #[.int .i64 (3), .int .i64 (1), .int .i64 (2), .int .i64 (3), .int .i64 (0)]); clear OZ3 o)
    | (go_at_call 29; (with_reducible refine (kp1 _ (EN.out _ OZ4.out) (SZ.out _ OZ4.out)).mono ?_); rintro e w5 ⟨rfl, o⟩; have OZ5 := hide ((OZ4.out.trans0 o).alloc (.cells #[.int .i64 (0), .int .i64 (0), .int .i64 (0), .int .i64 (0), .int .i64 (0)] 25)); have T4 := hide ((T4.out.only o (by simp)).alloc (.cells #[.int .i64 (0), .int .i64 (0), .int .i64 (0), .int .i64 (0), .int .i64 (0)] 25)); clear OZ4 o)
    | (go_at_call 29; (with_reducible refine (kp2 _ (EN.out _ OZ5.out) (SZ.out _ OZ5.out)).mono ?_); rintro e w6 ⟨rfl, o⟩; have OZ6 := hide ((OZ5.out.trans0 o).alloc (.cells #[.int .i64 (0), .int .i64 (0), .int .i64 (0), .int .i64 (0), .int .i64 (0)] 25)); have T4 := hide ((T4.out.only o (by simp)).alloc (.cells #[.int .i64 (0), .int .i64 (0), .int .i64 (0), .int .i64 (0), .int .i64 (0)] 25)); clear OZ5 o)
    | (go_at_call 29; (with_reducible refine (kp3 _ (EN.out _ OZ6.out) (SZ.out _ OZ6.out)).mono ?_); rintro e w7 ⟨rfl, o⟩; have OZ7 := hide ((OZ6.out.trans0 o).alloc (.cells #[.int .i64 (0), .int .i64 (0), .int .i64 (0), .int .i64 (0), .int .i64 (0)] 25)); have T4 := hide ((T4.out.only o (by simp)).alloc (.cells #[.int .i64 (0), .int .i64 (0), .int .i64 (0), .int .i64 (0), .int .i64 (0)] 25)); clear OZ6 o)
    | (go_at_call 45; (with_reducible refine (ks0 _).mono ?_); rintro e w8 ⟨rfl, o⟩; have OZ8 := hide ((OZ7.out.trans0 o).alloc (.cells #[.int .i64 (4), .int .i64 (-2), .int .i64 (7), .int .i64 (9), .int .i64 (0), .int .i64 (0), .int .i64 (0), .int .i64 (0), .int .i64 (0)] 98)); have T4 := hide ((T4.out.only o (by simp)).alloc (.cells #[.int .i64 (4), .int .i64 (-2), .int .i64 (7), .int .i64 (9), .int .i64 (0), .int .i64 (0), .int .i64 (0), .int .i64 (0), .int .i64 (0)] 98)); have T8 := hide (Blk.new w8 98 #[.int .i64 (4), .int .i64 (-2), .int .i64 (7), .int .i64 (9), .int .i64 (0), .int .i64 (0), .int .i64 (0), .int .i64 (0), .int .i64 (0)]); clear OZ7 o)
    | (go_at_call 45; (with_reducible refine (ks1 _).mono ?_); rintro e w9 ⟨rfl, o⟩; have OZ9 := hide ((OZ8.out.trans0 o).alloc (.cells #[.int .i64 (9), .int .i64 (0), .int .i64 (0), .int .i64 (0), .int .i64 (0), .int .i64 (0), .int .i64 (0), .int .i64 (0), .int .i64 (0)] 98)); have T4 := hide ((T4.out.only o (by simp)).alloc (.cells #[.int .i64 (9), .int .i64 (0), .int .i64 (0), .int .i64 (0), .int .i64 (0), .int .i64 (0), .int .i64 (0), .int .i64 (0), .int .i64 (0)] 98)); have T8 := hide ((T8.out.only o (by simp)).alloc (.cells #[.int .i64 (9), .int .i64 (0), .int .i64 (0), .int .i64 (0), .int .i64 (0), .int .i64 (0), .int .i64 (0), .int .i64 (0), .int .i64 (0)] 98)); have T9 := hide (Blk.new w9 98 #[.int .i64 (9), .int .i64 (0), .int .i64 (0), .int .i64 (0), .int .i64 (0), .int .i64 (0), .int .i64 (0), .int .i64 (0), .int .i64 (0)]); clear OZ8 o)
    | (go_at_call 45; (with_reducible refine (ks2 _).mono ?_); rintro e w10 ⟨rfl, o⟩; have OZ10 := hide ((OZ9.out.trans0 o).alloc (.cells #[.int .i64 (0), .int .i64 (0), .int .i64 (0), .int .i64 (0), .int .i64 (0), .int .i64 (0), .int .i64 (0), .int .i64 (0), .int .i64 (0)] 98)); have T4 := hide ((T4.out.only o (by simp)).alloc (.cells #[.int .i64 (0), .int .i64 (0), .int .i64 (0), .int .i64 (0), .int .i64 (0), .int .i64 (0), .int .i64 (0), .int .i64 (0), .int .i64 (0)] 98)); have T8 := hide ((T8.out.only o (by simp)).alloc (.cells #[.int .i64 (0), .int .i64 (0), .int .i64 (0), .int .i64 (0), .int .i64 (0), .int .i64 (0), .int .i64 (0), .int .i64 (0), .int .i64 (0)] 98)); have T9 := hide ((T9.out.only o (by simp)).alloc (.cells #[.int .i64 (0), .int .i64 (0), .int .i64 (0), .int .i64 (0), .int .i64 (0), .int .i64 (0), .int .i64 (0), .int .i64 (0), .int .i64 (0)] 98)); clear OZ9 o)
    | (go_at_call 8; (with_reducible refine (kr0 _ (EN.out _ OZ10.out) (SZ.out _ OZ10.out)).mono ?_); rintro e w11 ⟨⟨A11, c11, rfl⟩, o⟩; have OZ11 := hide (OZ10.out.trans0 o); have T4 := hide (T4.out.only o (by simp)); have T8 := hide (T8.out.only o (by simp)); have T9 := hide (T9.out.only o (by simp)); clear OZ10 o)
    | (go_at_call 8; (with_reducible refine (kr1 _ (EN.out _ OZ11.out) (SZ.out _ OZ11.out)).mono ?_); rintro e w12 ⟨⟨A12, c12, rfl⟩, o⟩; have OZ12 := hide (OZ11.out.trans0 o); have T4 := hide (T4.out.only o (by simp)); have T8 := hide (T8.out.only o (by simp)); have T9 := hide (T9.out.only o (by simp)); clear OZ11 o)
    | (go_at_call 8; (with_reducible refine (kr2 _ (EN.out _ OZ12.out) (SZ.out _ OZ12.out)).mono ?_); rintro e w13 ⟨⟨A13, c13, rfl⟩, o⟩; have OZ13 := hide (OZ12.out.trans0 o); have T4 := hide (T4.out.only o (by simp)); have T8 := hide (T8.out.only o (by simp)); have T9 := hide (T9.out.only o (by simp)); have yT40 := T4.out.cell 0; have yT41 := T4.out.cell 1; have yT42 := T4.out.cell 2; have yT43 := T4.out.cell 3; have yT44 := T4.out.cell 4; have yT80 := T8.out.cell 0; have yT81 := T8.out.cell 1; have yT82 := T8.out.cell 2; have yT83 := T8.out.cell 3; have yT84 := T8.out.cell 4; have yT85 := T8.out.cell 5; have yT86 := T8.out.cell 6; have yT87 := T8.out.cell 7; have yT88 := T8.out.cell 8; have yT90 := T9.out.cell 0; have yT91 := T9.out.cell 1; have yT92 := T9.out.cell 2; have yT93 := T9.out.cell 3; have yT94 := T9.out.cell 4; have yT95 := T9.out.cell 5; have yT96 := T9.out.cell 6; have yT97 := T9.out.cell 7; have yT98 := T9.out.cell 8; clear OZ12 o))
  go_ret
  exact ⟨rfl, OZ13.out⟩
end Go.Proofs.YtmaljajdmgkakaaGreatDoor
