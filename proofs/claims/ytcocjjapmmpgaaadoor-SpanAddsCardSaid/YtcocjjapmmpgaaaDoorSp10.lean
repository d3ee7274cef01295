/- Spans: SpanTicks, SpanSums, walked: it answers true. Condition: Env. -/
import Derived.Test.YtcocjjapmmpgaaaDoorSp8
namespace Go.Proofs.YtcocjjapmmpgaaaDoor
open Go.RowKit Go.BigFrame
set_option linter.unusedVariables false
set_option linter.all false
set_option maxRecDepth 100000

set_option maxHeartbeats 8000000 in
theorem ticksLaw_any (s n k : Int) (w : World) (henv : Env w) : Calls Tryd.prog 4 #[.agg #[.int .i64 s, .int .i64 n], .int .i64 k] w fun e w' => e = .returned (.bool true) ∧ Only [] w w' := by
  obtain ⟨x1, e1, h1⟩ : ∃ x e, ticksN s n = (x, e) := ⟨_, _, rfl⟩
  obtain ⟨x2, y2, e2, h2⟩ : ∃ x y e, ofTN k = (x, y, e) := ⟨_, _, _, rfl⟩
  have K1 : Hid (∀ W, Calls Tryd.prog 21 #[.agg #[.int .i64 s, .int .i64 n]] W fun e w' => e = .returned (.tuple #[.int .i64 x1, .int .i64 e1]) ∧ Only [] W w') := hide (fun W => (ticks_any s n W).mono fun e w' ⟨he, ho⟩ => ⟨by unfold inE at he; rw [he, h1], ho⟩)
  have K2 : Hid (∀ W, Calls Tryd.prog 22 #[.agg #[.int .i64 s, .int .i64 n]] W fun e w' => e = .returned (.tuple #[.int .i64 x1, .int .i64 e1]) ∧ Only [] W w') := hide (fun W => (rticks_any s n W).mono fun e w' ⟨he, ho⟩ => ⟨by unfold inE at he; rw [he, h1], ho⟩)
  have K3 : Hid (∀ W, Calls Tryd.prog 23 #[.int .i64 k] W fun e w' => e = .returned (.tuple #[.agg #[.int .i64 x2, .int .i64 y2], .int .i64 e2]) ∧ Only [] W w') := hide (fun W => (ofT_any k W).mono fun e w' ⟨he, ho⟩ => ⟨by unfold spE at he; rw [he, h2], ho⟩)
  have K4 : Hid (∀ W, Calls Tryd.prog 24 #[.int .i64 k] W fun e w' => e = .returned (.tuple #[.agg #[.int .i64 x2, .int .i64 y2], .int .i64 e2]) ∧ Only [] W w') := hide (fun W => (rofT_any k W).mono fun e w' ⟨he, ho⟩ => ⟨by unfold spE at he; rw [he, h2], ho⟩)
  have OO := (Only.refl [] w).alloc (.cells #[.int .i64 s, .int .i64 n] 23)
  have LA := Blk.new w 23 #[.int .i64 s, .int .i64 n]
  clear h1 h2
  go_enter Tryd.func4, Tryd.ntmps4
  go_wp2_with (first
    | (go_at_call 21; refine (K1.out _).mono ?_; rintro e w1 ⟨rfl, o⟩; have LA := LA.only o (by simp); have OO := OO.trans0 o; clear o; obtain ⟨la0, la1, laf, lag, lal⟩ := cell_of_only LA (Only.refl [] _))
    | (go_at_call 22; refine (K2.out _).mono ?_; rintro e w2 ⟨rfl, o⟩; have LA := LA.only o (by simp); have OO := OO.trans0 o; clear o; clear la0 la1 laf lag lal; obtain ⟨la0, la1, laf, lag, lal⟩ := cell_of_only LA (Only.refl [] _))
    | (go_at_call 23; refine (K3.out _).mono ?_; rintro e w3 ⟨rfl, o⟩; have LA := LA.only o (by simp); have OO := OO.trans0 o; clear o; have LA := LA.only (only_store w3 (.int .i64 x2) (.int .i64 y2)) (by simp); have OO := OO.trans0 (only_store w3 (.int .i64 x2) (.int .i64 y2)); have LC := blk_store w3 (.int .i64 x2) (.int .i64 y2); clear la0 la1 laf lag lal; obtain ⟨la0, la1, laf, lag, lal⟩ := cell_of_only LA (Only.refl [] _); obtain ⟨lc0, lc1, lcf, lcg, lcl⟩ := cell_of_only LC (Only.refl [] _))
    | (go_at_call 24; refine (K4.out _).mono ?_; rintro e w4 ⟨rfl, o⟩; have LA := LA.only o (by simp); have LC := LC.only o (by simp); have OO := OO.trans0 o; clear o; have LA := LA.only (only_store w4 (.int .i64 x2) (.int .i64 y2)) (by simp); have LC := LC.only (only_store w4 (.int .i64 x2) (.int .i64 y2)) (by simp); have OO := OO.trans0 (only_store w4 (.int .i64 x2) (.int .i64 y2)); have LD := blk_store w4 (.int .i64 x2) (.int .i64 y2); clear la0 la1 laf lag lal; obtain ⟨la0, la1, laf, lag, lal⟩ := cell_of_only LA (Only.refl [] _); clear lc0 lc1 lcf lcg lcl; obtain ⟨lc0, lc1, lcf, lcg, lcl⟩ := cell_of_only LC (Only.refl [] _); obtain ⟨ld0, ld1, ldf, ldg, ldl⟩ := cell_of_only LD (Only.refl [] _))
    | (go_at_call 17; refine (num_any _ _).mono ?_; rintro e _ ⟨rfl, rfl⟩)
    | (go_at_call 20; refine (known_any _ (henv.only OO)).mono ?_; rintro e wk ⟨rfl, o⟩; have OO := OO.trans0 o))
  go_ret
  exact ⟨rfl, OO⟩
theorem blk1b (w : World) (x y : Array Value) : Blk ((w.alloc (.cells x 23)).alloc (.cells y 23)) w.heap.size 23 x := (Blk.new w 23 x).alloc _
theorem blk2b (w : World) (x y : Array Value) : Blk ((w.alloc (.cells x 23)).alloc (.cells y 23)) (w.heap.size + 1) 23 y := by
  have := Blk.new (w.alloc (.cells x 23)) 23 y
  simpa using this
set_option maxHeartbeats 8000000 in
theorem sums_any (a b c d k : Int) (hk1 : -9223372036854775808 ≤ k) (hk2 : k ≤ 9223372036854775807) (w : World) (henv : Env w) : Calls Tryd.prog 3 #[.agg #[.int .i64 a, .int .i64 b], .agg #[.int .i64 c, .int .i64 d], .int .i64 k] w fun e w' => e = .returned (.bool true) ∧ Only [] w w' := by
  obtain ⟨x1, y1, e1, h1⟩ : ∃ x y e, addN a b c d = (x, y, e) := ⟨_, _, _, rfl⟩
  obtain ⟨x2, y2, e2, h2⟩ : ∃ x y e, subN a b c d = (x, y, e) := ⟨_, _, _, rfl⟩
  obtain ⟨x3, y3, e3, h3⟩ : ∃ x y e, timesN a b k = (x, y, e) := ⟨_, _, _, rfl⟩
  have K1 : Hid (∀ W, Calls Tryd.prog 9 #[.agg #[.int .i64 a, .int .i64 b], .agg #[.int .i64 c, .int .i64 d]] W fun e w' => e = .returned (.tuple #[.agg #[.int .i64 x1, .int .i64 y1], .int .i64 e1]) ∧ Only [] W w') := hide (fun W => (add_any a b c d W).mono fun e w' ⟨he, ho⟩ => ⟨by unfold spE at he; rw [he, h1], ho⟩)
  have K2 : Hid (∀ W, Calls Tryd.prog 10 #[.agg #[.int .i64 a, .int .i64 b], .agg #[.int .i64 c, .int .i64 d]] W fun e w' => e = .returned (.tuple #[.agg #[.int .i64 x1, .int .i64 y1], .int .i64 e1]) ∧ Only [] W w') := hide (fun W => (radd_any a b c d W).mono fun e w' ⟨he, ho⟩ => ⟨by unfold spE at he; rw [he, h1], ho⟩)
  have K3 : Hid (∀ W, Calls Tryd.prog 11 #[.agg #[.int .i64 a, .int .i64 b], .agg #[.int .i64 c, .int .i64 d]] W fun e w' => e = .returned (.tuple #[.agg #[.int .i64 x2, .int .i64 y2], .int .i64 e2]) ∧ Only [] W w') := hide (fun W => (sub_any a b c d W).mono fun e w' ⟨he, ho⟩ => ⟨by unfold spE at he; rw [he, h2], ho⟩)
  have K4 : Hid (∀ W, Calls Tryd.prog 12 #[.agg #[.int .i64 a, .int .i64 b], .agg #[.int .i64 c, .int .i64 d]] W fun e w' => e = .returned (.tuple #[.agg #[.int .i64 x2, .int .i64 y2], .int .i64 e2]) ∧ Only [] W w') := hide (fun W => (rsub_any a b c d W).mono fun e w' ⟨he, ho⟩ => ⟨by unfold spE at he; rw [he, h2], ho⟩)
  have K5 : Hid (∀ W, Calls Tryd.prog 13 #[.agg #[.int .i64 a, .int .i64 b], .int .i64 k] W fun e w' => e = .returned (.tuple #[.agg #[.int .i64 x3, .int .i64 y3], .int .i64 e3]) ∧ Only [] W w') := hide (fun W => (times_any a b k hk1 hk2 W).mono fun e w' ⟨he, ho⟩ => ⟨by unfold spE at he; rw [he, h3], ho⟩)
  have K6 : Hid (∀ W, Calls Tryd.prog 14 #[.agg #[.int .i64 a, .int .i64 b], .int .i64 k] W fun e w' => e = .returned (.tuple #[.agg #[.int .i64 x3, .int .i64 y3], .int .i64 e3]) ∧ Only [] W w') := hide (fun W => (rtimes_any a b k hk1 hk2 W).mono fun e w' ⟨he, ho⟩ => ⟨by unfold spE at he; rw [he, h3], ho⟩)
  obtain ⟨m, hm⟩ : ∃ m, mayN a b = m := ⟨_, rfl⟩
  obtain ⟨q, hq⟩ : ∃ q, cmpN a b c d = q := ⟨_, rfl⟩
  have K7 : Hid (∀ W, Calls Tryd.prog 15 #[.agg #[.int .i64 a, .int .i64 b]] W fun e w' => e = .returned (.bool m) ∧ Only [] W w') := hide (fun W => (may15 a b W).mono fun e w' ⟨he, hw⟩ => ⟨by rw [he, hm], hw ▸ (Only.refl [] W).alloc _⟩)
  have K8 : Hid (∀ W, Calls Tryd.prog 16 #[.agg #[.int .i64 a, .int .i64 b]] W fun e w' => e = .returned (.bool m) ∧ Only [] W w') := hide (fun W => (may16 a b W).mono fun e w' ⟨he, hw⟩ => ⟨by rw [he, hm], hw ▸ (Only.refl [] W).alloc _⟩)
  have K9 : Hid (∀ W, Calls Tryd.prog 18 #[.agg #[.int .i64 a, .int .i64 b], .agg #[.int .i64 c, .int .i64 d]] W fun e w' => e = .returned (.int .i64 q) ∧ Only [] W w') := hide (fun W => (cmp_any a b c d W).mono fun e w' ⟨he, hw⟩ => ⟨by rw [he, hq], hw ▸ ((Only.refl [] W).alloc _).alloc _⟩)
  have K10 : Hid (∀ W, Calls Tryd.prog 19 #[.agg #[.int .i64 a, .int .i64 b], .agg #[.int .i64 c, .int .i64 d]] W fun e w' => e = .returned (.int .i64 q) ∧ Only [] W w') := hide (fun W => (rcmp_any a b c d W).mono fun e w' ⟨he, hw⟩ => ⟨by rw [he, hq], hw ▸ ((Only.refl [] W).alloc _).alloc _⟩)
  have OO := ((Only.refl [] w).alloc (.cells #[.int .i64 a, .int .i64 b] 23)).alloc (.cells #[.int .i64 c, .int .i64 d] 23)
  have LA := blk1b w #[.int .i64 a, .int .i64 b] #[.int .i64 c, .int .i64 d]
  have LB := blk2b w #[.int .i64 a, .int .i64 b] #[.int .i64 c, .int .i64 d]
  clear h1 h2 h3 hm hq
  go_enter Tryd.func3, Tryd.ntmps3
  go_wp2_with (first
    | (go_at_call 9; refine (K1.out _).mono ?_; rintro e w1 ⟨rfl, o⟩; have LA := LA.only o (by simp); have LB := LB.only o (by simp); have OO := OO.trans0 o; clear o; have LA := LA.only (only_store w1 (.int .i64 x1) (.int .i64 y1)) (by simp); have LB := LB.only (only_store w1 (.int .i64 x1) (.int .i64 y1)) (by simp); have OO := OO.trans0 (only_store w1 (.int .i64 x1) (.int .i64 y1)); have LC := blk_store w1 (.int .i64 x1) (.int .i64 y1); obtain ⟨la0, la1, laf, lag, lal⟩ := cell_of_only LA (Only.refl [] _); obtain ⟨lb0, lb1, lbf, lbg, lbl⟩ := cell_of_only LB (Only.refl [] _); obtain ⟨lc0, lc1, lcf, lcg, lcl⟩ := cell_of_only LC (Only.refl [] _))
    | (go_at_call 10; refine (K2.out _).mono ?_; rintro e w2 ⟨rfl, o⟩; have LA := LA.only o (by simp); have LB := LB.only o (by simp); have LC := LC.only o (by simp); have OO := OO.trans0 o; clear o; have LA := LA.only (only_store w2 (.int .i64 x1) (.int .i64 y1)) (by simp); have LB := LB.only (only_store w2 (.int .i64 x1) (.int .i64 y1)) (by simp); have LC := LC.only (only_store w2 (.int .i64 x1) (.int .i64 y1)) (by simp); have OO := OO.trans0 (only_store w2 (.int .i64 x1) (.int .i64 y1)); have LD := blk_store w2 (.int .i64 x1) (.int .i64 y1); clear la0 la1 laf lag lal; obtain ⟨la0, la1, laf, lag, lal⟩ := cell_of_only LA (Only.refl [] _); clear lb0 lb1 lbf lbg lbl; obtain ⟨lb0, lb1, lbf, lbg, lbl⟩ := cell_of_only LB (Only.refl [] _); clear lc0 lc1 lcf lcg lcl; obtain ⟨lc0, lc1, lcf, lcg, lcl⟩ := cell_of_only LC (Only.refl [] _); obtain ⟨ld0, ld1, ldf, ldg, ldl⟩ := cell_of_only LD (Only.refl [] _))
    | (go_at_call 11; refine (K3.out _).mono ?_; rintro e w3 ⟨rfl, o⟩; have LA := LA.only o (by simp); have LB := LB.only o (by simp); have LC := LC.only o (by simp); have LD := LD.only o (by simp); have OO := OO.trans0 o; clear o; have LA := LA.only (only_store w3 (.int .i64 x2) (.int .i64 y2)) (by simp); have LB := LB.only (only_store w3 (.int .i64 x2) (.int .i64 y2)) (by simp); have LC := LC.only (only_store w3 (.int .i64 x2) (.int .i64 y2)) (by simp); have LD := LD.only (only_store w3 (.int .i64 x2) (.int .i64 y2)) (by simp); have OO := OO.trans0 (only_store w3 (.int .i64 x2) (.int .i64 y2)); have LE := blk_store w3 (.int .i64 x2) (.int .i64 y2); clear la0 la1 laf lag lal; obtain ⟨la0, la1, laf, lag, lal⟩ := cell_of_only LA (Only.refl [] _); clear lb0 lb1 lbf lbg lbl; obtain ⟨lb0, lb1, lbf, lbg, lbl⟩ := cell_of_only LB (Only.refl [] _); clear lc0 lc1 lcf lcg lcl; obtain ⟨lc0, lc1, lcf, lcg, lcl⟩ := cell_of_only LC (Only.refl [] _); clear ld0 ld1 ldf ldg ldl; obtain ⟨ld0, ld1, ldf, ldg, ldl⟩ := cell_of_only LD (Only.refl [] _); obtain ⟨le0, le1, lef, leg, lel⟩ := cell_of_only LE (Only.refl [] _))
    | (go_at_call 12; refine (K4.out _).mono ?_; rintro e w4 ⟨rfl, o⟩; have LA := LA.only o (by simp); have LB := LB.only o (by simp); have LC := LC.only o (by simp); have LD := LD.only o (by simp); have LE := LE.only o (by simp); have OO := OO.trans0 o; clear o; have LA := LA.only (only_store w4 (.int .i64 x2) (.int .i64 y2)) (by simp); have LB := LB.only (only_store w4 (.int .i64 x2) (.int .i64 y2)) (by simp); have LC := LC.only (only_store w4 (.int .i64 x2) (.int .i64 y2)) (by simp); have LD := LD.only (only_store w4 (.int .i64 x2) (.int .i64 y2)) (by simp); have LE := LE.only (only_store w4 (.int .i64 x2) (.int .i64 y2)) (by simp); have OO := OO.trans0 (only_store w4 (.int .i64 x2) (.int .i64 y2)); have LF := blk_store w4 (.int .i64 x2) (.int .i64 y2); clear la0 la1 laf lag lal; obtain ⟨la0, la1, laf, lag, lal⟩ := cell_of_only LA (Only.refl [] _); clear lb0 lb1 lbf lbg lbl; obtain ⟨lb0, lb1, lbf, lbg, lbl⟩ := cell_of_only LB (Only.refl [] _); clear lc0 lc1 lcf lcg lcl; obtain ⟨lc0, lc1, lcf, lcg, lcl⟩ := cell_of_only LC (Only.refl [] _); clear ld0 ld1 ldf ldg ldl; obtain ⟨ld0, ld1, ldf, ldg, ldl⟩ := cell_of_only LD (Only.refl [] _); clear le0 le1 lef leg lel; obtain ⟨le0, le1, lef, leg, lel⟩ := cell_of_only LE (Only.refl [] _); obtain ⟨lf0, lf1, lff, lfg, lfl⟩ := cell_of_only LF (Only.refl [] _))
    | (go_at_call 13; refine (K5.out _).mono ?_; rintro e w5 ⟨rfl, o⟩; have LA := LA.only o (by simp); have LB := LB.only o (by simp); have LC := LC.only o (by simp); have LD := LD.only o (by simp); have LE := LE.only o (by simp); have LF := LF.only o (by simp); have OO := OO.trans0 o; clear o; have LA := LA.only (only_store w5 (.int .i64 x3) (.int .i64 y3)) (by simp); have LB := LB.only (only_store w5 (.int .i64 x3) (.int .i64 y3)) (by simp); have LC := LC.only (only_store w5 (.int .i64 x3) (.int .i64 y3)) (by simp); have LD := LD.only (only_store w5 (.int .i64 x3) (.int .i64 y3)) (by simp); have LE := LE.only (only_store w5 (.int .i64 x3) (.int .i64 y3)) (by simp); have LF := LF.only (only_store w5 (.int .i64 x3) (.int .i64 y3)) (by simp); have OO := OO.trans0 (only_store w5 (.int .i64 x3) (.int .i64 y3)); have LG := blk_store w5 (.int .i64 x3) (.int .i64 y3); clear la0 la1 laf lag lal; obtain ⟨la0, la1, laf, lag, lal⟩ := cell_of_only LA (Only.refl [] _); clear lb0 lb1 lbf lbg lbl; obtain ⟨lb0, lb1, lbf, lbg, lbl⟩ := cell_of_only LB (Only.refl [] _); clear lc0 lc1 lcf lcg lcl; obtain ⟨lc0, lc1, lcf, lcg, lcl⟩ := cell_of_only LC (Only.refl [] _); clear ld0 ld1 ldf ldg ldl; obtain ⟨ld0, ld1, ldf, ldg, ldl⟩ := cell_of_only LD (Only.refl [] _); clear le0 le1 lef leg lel; obtain ⟨le0, le1, lef, leg, lel⟩ := cell_of_only LE (Only.refl [] _); clear lf0 lf1 lff lfg lfl; obtain ⟨lf0, lf1, lff, lfg, lfl⟩ := cell_of_only LF (Only.refl [] _); obtain ⟨lg0, lg1, lgf, lgg, lgl⟩ := cell_of_only LG (Only.refl [] _))
    | (go_at_call 14; refine (K6.out _).mono ?_; rintro e w6 ⟨rfl, o⟩; have LA := LA.only o (by simp); have LB := LB.only o (by simp); have LC := LC.only o (by simp); have LD := LD.only o (by simp); have LE := LE.only o (by simp); have LF := LF.only o (by simp); have LG := LG.only o (by simp); have OO := OO.trans0 o; clear o; have LA := LA.only (only_store w6 (.int .i64 x3) (.int .i64 y3)) (by simp); have LB := LB.only (only_store w6 (.int .i64 x3) (.int .i64 y3)) (by simp); have LC := LC.only (only_store w6 (.int .i64 x3) (.int .i64 y3)) (by simp); have LD := LD.only (only_store w6 (.int .i64 x3) (.int .i64 y3)) (by simp); have LE := LE.only (only_store w6 (.int .i64 x3) (.int .i64 y3)) (by simp); have LF := LF.only (only_store w6 (.int .i64 x3) (.int .i64 y3)) (by simp); have LG := LG.only (only_store w6 (.int .i64 x3) (.int .i64 y3)) (by simp); have OO := OO.trans0 (only_store w6 (.int .i64 x3) (.int .i64 y3)); have LH := blk_store w6 (.int .i64 x3) (.int .i64 y3); clear la0 la1 laf lag lal; obtain ⟨la0, la1, laf, lag, lal⟩ := cell_of_only LA (Only.refl [] _); clear lb0 lb1 lbf lbg lbl; obtain ⟨lb0, lb1, lbf, lbg, lbl⟩ := cell_of_only LB (Only.refl [] _); clear lc0 lc1 lcf lcg lcl; obtain ⟨lc0, lc1, lcf, lcg, lcl⟩ := cell_of_only LC (Only.refl [] _); clear ld0 ld1 ldf ldg ldl; obtain ⟨ld0, ld1, ldf, ldg, ldl⟩ := cell_of_only LD (Only.refl [] _); clear le0 le1 lef leg lel; obtain ⟨le0, le1, lef, leg, lel⟩ := cell_of_only LE (Only.refl [] _); clear lf0 lf1 lff lfg lfl; obtain ⟨lf0, lf1, lff, lfg, lfl⟩ := cell_of_only LF (Only.refl [] _); clear lg0 lg1 lgf lgg lgl; obtain ⟨lg0, lg1, lgf, lgg, lgl⟩ := cell_of_only LG (Only.refl [] _); obtain ⟨lh0, lh1, lhf, lhg, lhl⟩ := cell_of_only LH (Only.refl [] _)))
  have OD := OO.drew
  have qLA0 : ∀ s : Sub _, s.val.cell? ⟨w.heap.size, 0, none⟩ = some (.int .i64 a) := fun s => (cell_of_only LA.drew s.ok).1
  have qLA1 : ∀ s : Sub _, s.val.cell? ⟨w.heap.size, 1, none⟩ = some (.int .i64 b) := fun s => (cell_of_only LA.drew s.ok).2.1
  have qLB0 : ∀ s : Sub _, s.val.cell? ⟨w.heap.size + 1, 0, none⟩ = some (.int .i64 c) := fun s => (cell_of_only LB.drew s.ok).1
  have qLB1 : ∀ s : Sub _, s.val.cell? ⟨w.heap.size + 1, 1, none⟩ = some (.int .i64 d) := fun s => (cell_of_only LB.drew s.ok).2.1
  have qLC0 : ∀ s : Sub _, s.val.cell? ⟨w1.heap.size, 0, none⟩ = some (.int .i64 x1) := fun s => (cell_of_only LC.drew s.ok).1
  have qLC1 : ∀ s : Sub _, s.val.cell? ⟨w1.heap.size, 1, none⟩ = some (.int .i64 y1) := fun s => (cell_of_only LC.drew s.ok).2.1
  have qLD0 : ∀ s : Sub _, s.val.cell? ⟨w2.heap.size, 0, none⟩ = some (.int .i64 x1) := fun s => (cell_of_only LD.drew s.ok).1
  have qLD1 : ∀ s : Sub _, s.val.cell? ⟨w2.heap.size, 1, none⟩ = some (.int .i64 y1) := fun s => (cell_of_only LD.drew s.ok).2.1
  have qLE0 : ∀ s : Sub _, s.val.cell? ⟨w3.heap.size, 0, none⟩ = some (.int .i64 x2) := fun s => (cell_of_only LE.drew s.ok).1
  have qLE1 : ∀ s : Sub _, s.val.cell? ⟨w3.heap.size, 1, none⟩ = some (.int .i64 y2) := fun s => (cell_of_only LE.drew s.ok).2.1
  have qLF0 : ∀ s : Sub _, s.val.cell? ⟨w4.heap.size, 0, none⟩ = some (.int .i64 x2) := fun s => (cell_of_only LF.drew s.ok).1
  have qLF1 : ∀ s : Sub _, s.val.cell? ⟨w4.heap.size, 1, none⟩ = some (.int .i64 y2) := fun s => (cell_of_only LF.drew s.ok).2.1
  have qLG0 : ∀ s : Sub _, s.val.cell? ⟨w5.heap.size, 0, none⟩ = some (.int .i64 x3) := fun s => (cell_of_only LG.drew s.ok).1
  have qLG1 : ∀ s : Sub _, s.val.cell? ⟨w5.heap.size, 1, none⟩ = some (.int .i64 y3) := fun s => (cell_of_only LG.drew s.ok).2.1
  have qLH0 : ∀ s : Sub _, s.val.cell? ⟨w6.heap.size, 0, none⟩ = some (.int .i64 x3) := fun s => (cell_of_only LH.drew s.ok).1
  have qLH1 : ∀ s : Sub _, s.val.cell? ⟨w6.heap.size, 1, none⟩ = some (.int .i64 y3) := fun s => (cell_of_only LH.drew s.ok).2.1
  try simp only [List.append_eq, List.cons_append, List.nil_append]
  refine wp_region_quiet_sub (by kernel_rfl) (by as_aux_lemma => kernel_rfl) ?_
  repeat (go_big_quiet_step (first
    | (go_at_call 17; with_reducible exact quiet_sub_same (num_any _ _))
    | (go_at_call 20; with_reducible exact quiet_known (henv.only OD))
    | (go_at_call 15; with_reducible exact quiet_sub (K7.out _))
    | (go_at_call 16; with_reducible exact quiet_sub (K8.out _))
    | (go_at_call 18; with_reducible exact quiet_sub (K9.out _))
    | (go_at_call 19; with_reducible exact quiet_sub (K10.out _))))
  refine wpQuiet_nil ?_
  rintro _ ⟨s, rfl⟩
  replace OO := OD.trans0 s.ok
  go_wp2_with fail
  go_ret
  exact ⟨rfl, OO⟩
end Go.Proofs.YtcocjjapmmpgaaaDoor
