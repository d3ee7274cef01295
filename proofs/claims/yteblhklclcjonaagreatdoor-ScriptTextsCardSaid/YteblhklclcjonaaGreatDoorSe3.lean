/- Script: the walks of the document's May, MayStretch, Line. Condition: Env. -/
import Derived.Test.YteblhklclcjonaaGreatDoorSe2
namespace Go.Proofs.YteblhklclcjonaaGreatDoor
open Go.RowKit
set_option linter.unusedVariables false
set_option linter.all false
set_option maxRecDepth 20000

set_option maxHeartbeats 1000000 in
theorem rmay_ev (k m : Int) (w : World) : Calls Tryz.prog 14 #[.agg #[.int .i64 k, .int .i64 m]] w fun e w' => e = .returned (.bool (mayE ⟨k, m⟩)) ∧ Only [] w w' := by
  have o := hide ((Only.refl [] w).alloc (.cells #[.int .i64 k, .int .i64 m] 24))
  by_cases k1 : k = 1
  · subst k1
    rw [mayE_1]
    by_cases m0 : m = 0
    · subst m0
      go_enter Tryz.func14, Tryz.ntmps14
      go_wp2_with fail
      go_ret
      exact ⟨rfl, o.out⟩
    · have b0 : (m == 0) = false := by simpa using m0
      rw [b0]
      go_enter Tryz.func14, Tryz.ntmps14
      go_wp2_with fail
      go_ret
      exact ⟨rfl, o.out⟩
  · by_cases k2 : k = 2
    · subst k2
      rw [mayE_2]
      by_cases m0 : m = 0
      · subst m0
        go_enter Tryz.func14, Tryz.ntmps14
        go_wp2_with fail
        go_ret
        exact ⟨rfl, o.out⟩
      · have b0 : (m == 0) = false := by simpa using m0
        rw [b0]
        go_enter Tryz.func14, Tryz.ntmps14
        go_wp2_with fail
        go_ret
        exact ⟨rfl, o.out⟩
    · have b1 : (k == 1) = false := by simpa using k1
      have b2 : (k == 2) = false := by simpa using k2
      by_cases k3 : k = 3
      · subst k3
        rw [mayE_3]
        by_cases c1 : 0 ≤ m
        · by_cases c2 : m ≤ 7
          · have d1 : decide (0 ≤ m) = true := decide_eq_true c1
            have d2 : decide (m ≤ 7) = true := decide_eq_true c2
            rw [d1, d2]
            go_enter Tryz.func14, Tryz.ntmps14
            go_wp2_with fail
            go_ret
            exact ⟨rfl, o.out⟩
          · have d1 : decide (0 ≤ m) = true := decide_eq_true c1
            have d2 : decide (m ≤ 7) = false := decide_eq_false c2
            rw [d1, d2]
            go_enter Tryz.func14, Tryz.ntmps14
            go_wp2_with fail
            go_ret
            exact ⟨rfl, o.out⟩
        · have d1 : decide (0 ≤ m) = false := decide_eq_false c1
          rw [d1]
          go_enter Tryz.func14, Tryz.ntmps14
          go_wp2_with fail
          go_ret
          exact ⟨rfl, o.out⟩
      · rw [mayE_no m k1 k2 k3]
        have b3 : (k == 3) = false := by simpa using k3
        go_enter Tryz.func14, Tryz.ntmps14
        go_wp2_with fail
        go_ret
        exact ⟨rfl, o.out⟩
set_option maxHeartbeats 1000000 in
theorem rmays_any (k m n : Int) (w : World) : Calls Tryz.prog 18 #[.agg #[.int .i64 k, .int .i64 m, .int .i64 n]] w fun e w' => e = .returned (.bool (mayS ⟨⟨k, m⟩, n⟩)) ∧ Only [] w w' := by
  have MY := fun W => rmay_ev k m W
  rw [mayS_eq]
  have OA := hide ((Only.refl [] w).alloc (.cells #[.int .i64 k, .int .i64 m, .int .i64 n] 26))
  have B0 := hide (Blk.new w 26 #[.int .i64 k, .int .i64 m, .int .i64 n])
  cases hE : mayE ⟨k, m⟩ with
  | false =>
    rw [hE] at MY
    have MY := hide MY
    rw [Bool.false_and]
    clear hE
    go_enter Tryz.func18, Tryz.ntmps18
    go_wp2_with (go_at_call 14; (with_reducible refine (MY.out _).mono ?_); rintro e w1 ⟨rfl, o⟩; have O1 := hide (OA.out.trans0 o); clear o)
    go_ret
    exact ⟨rfl, O1.out⟩
  | true =>
    rw [hE] at MY
    have MY := hide MY
    rw [Bool.true_and]
    clear hE
    by_cases c1 : 1 ≤ n
    · have d1 : decide (1 ≤ n) = true := decide_eq_true c1
      rw [d1, Bool.true_and]
      by_cases c2 : n ≤ 8192
      · have d2 : decide (n ≤ 8192) = true := decide_eq_true c2
        rw [d2, Bool.true_and]
        by_cases k3 : k = 3
        · subst k3
          have e : (!((3 : Int) == 3) || decide (n ≤ 1)) = (n == 1) := by rw [Bool.eq_iff_iff]; simp; omega
          rw [e]
          clear e
          go_enter Tryz.func18, Tryz.ntmps18
          go_wp2_with (go_at_call 14; (with_reducible refine (MY.out _).mono ?_); rintro e w1 ⟨rfl, o⟩; have bk := B0.out.only o (by simp); have x0 := bk.cell 0; have x1 := bk.cell 1; have x2 := bk.cell 2; have O1 := hide (OA.out.trans0 o); clear o bk)
          go_ret
          exact ⟨rfl, O1.out⟩
        · have b3 : (k == 3) = false := by simpa using k3
          have b4 : (k != 3) = true := by simpa using k3
          rw [b3]
          go_enter Tryz.func18, Tryz.ntmps18
          go_wp2_with (go_at_call 14; (with_reducible refine (MY.out _).mono ?_); rintro e w1 ⟨rfl, o⟩; have bk := B0.out.only o (by simp); have x0 := bk.cell 0; have x1 := bk.cell 1; have x2 := bk.cell 2; have O1 := hide (OA.out.trans0 o); clear o bk)
          go_ret
          exact ⟨rfl, O1.out⟩
      · have d2 : decide (n ≤ 8192) = false := decide_eq_false c2
        rw [d2, Bool.false_and]
        go_enter Tryz.func18, Tryz.ntmps18
        go_wp2_with (go_at_call 14; (with_reducible refine (MY.out _).mono ?_); rintro e w1 ⟨rfl, o⟩; have bk := B0.out.only o (by simp); have x0 := bk.cell 0; have x1 := bk.cell 1; have x2 := bk.cell 2; have O1 := hide (OA.out.trans0 o); clear o bk)
        go_ret
        exact ⟨rfl, O1.out⟩
    · have d1 : decide (1 ≤ n) = false := decide_eq_false c1
      rw [d1, Bool.false_and]
      go_enter Tryz.func18, Tryz.ntmps18
      go_wp2_with (go_at_call 14; (with_reducible refine (MY.out _).mono ?_); rintro e w1 ⟨rfl, o⟩; have bk := B0.out.only o (by simp); have x0 := bk.cell 0; have x1 := bk.cell 1; have x2 := bk.cell 2; have O1 := hide (OA.out.trans0 o); clear o bk)
      go_ret
      exact ⟨rfl, O1.out⟩
set_option maxHeartbeats 1000000 in
theorem rsline_any (k m n : Int) (hm0 : -9223372036854775808 ≤ m) (hm1 : m ≤ 9223372036854775807) (hn0 : -9223372036854775808 ≤ n) (hn1 : n ≤ 9223372036854775807) (w : World) (he : Env w) : Calls Tryz.prog 19 #[.agg #[.int .i64 k, .int .i64 m, .int .i64 n]] w fun e w' => e = .returned (.string (bs (lineT ⟨⟨k, m⟩, n⟩))) ∧ Only [] w w' := by
  have IN := hide (fun W (o : Only [] w W) => itoaE_any n hn0 hn1 W (he.only o))
  have IM := hide (fun W (o : Only [] w W) => itoaE_any m hm0 hm1 W (he.only o))
  have L1 := bs_cat [114, 117, 110, 32] (itoaF n)
  have L2 := bs_cat [116, 105, 99, 107, 32] (itoaF n)
  have L3 := bs_cat [105, 110, 116, 101, 114, 114, 117, 112, 116, 32] (itoaF m)
  have ln := pl_itoaF n
  have lm := pl_itoaF m
  have e1 : bs [114, 117, 110, 32] = ⟨#[114, 117, 110, 32]⟩ := rfl
  have e2 : bs [116, 105, 99, 107, 32] = ⟨#[116, 105, 99, 107, 32]⟩ := rfl
  have e3 : bs [105, 110, 116, 101, 114, 114, 117, 112, 116, 32] = ⟨#[105, 110, 116, 101, 114, 114, 117, 112, 116, 32]⟩ := rfl
  rw [e1] at L1
  rw [e2] at L2
  rw [e3] at L3
  have s1 : (bs (itoaF n)).size ≤ 22 := by rw [bs_size]; exact ln
  have s2 : (bs (itoaF m)).size ≤ 22 := by rw [bs_size]; exact lm
  have z1 : (⟨#[114, 117, 110, 32]⟩ : ByteArray).size = 4 := rfl
  have z2 : (⟨#[116, 105, 99, 107, 32]⟩ : ByteArray).size = 5 := rfl
  have z3 : (⟨#[105, 110, 116, 101, 114, 114, 117, 112, 116, 32]⟩ : ByteArray).size = 10 := rfl
  have q1 : ¬ 9223372036854775807 < (⟨#[114, 117, 110, 32]⟩ : ByteArray).size + (bs (itoaF n)).size := by omega
  have q2 : ¬ 9223372036854775807 < (⟨#[116, 105, 99, 107, 32]⟩ : ByteArray).size + (bs (itoaF n)).size := by omega
  have q3 : ¬ 9223372036854775807 < (⟨#[105, 110, 116, 101, 114, 114, 117, 112, 116, 32]⟩ : ByteArray).size + (bs (itoaF m)).size := by omega
  have OA := hide ((Only.refl [] w).alloc (.cells #[.int .i64 k, .int .i64 m, .int .i64 n] 26))
  clear ln lm s1 s2 z1 z2 z3 e1 e2 e3 he
  by_cases k1 : k = 1
  · subst k1
    have R : lineT ⟨⟨1, m⟩, n⟩ = [114, 117, 110, 32] ++ itoaF n := rfl
    rw [R, ← L1]
    clear R L1 L2 L3 q2 q3 IM
    obtain ⟨sn, hsn⟩ : ∃ x, bs (itoaF n) = x := ⟨_, rfl⟩
    rw [hsn] at q1 ⊢
    have IN' := IN.out
    rw [hsn] at IN'
    have IN := hide IN'
    clear IN' hsn
    go_enter Tryz.func19, Tryz.ntmps19
    go_wp2_with (go_at_call 31; (with_reducible refine (IN.out _ OA.out).mono ?_); rintro e w2 ⟨rfl, o⟩; have O2 := hide (OA.out.trans0 o); clear o)
    go_ret
    exact ⟨rfl, O2.out⟩
  · have b1 : (k == 1) = false := by simpa using k1
    by_cases k2 : k = 2
    · subst k2
      have R : lineT ⟨⟨2, m⟩, n⟩ = [116, 105, 99, 107, 32] ++ itoaF n := rfl
      rw [R, ← L2]
      clear R L1 L2 L3 q1 q3 IM
      obtain ⟨sn, hsn⟩ : ∃ x, bs (itoaF n) = x := ⟨_, rfl⟩
      rw [hsn] at q2 ⊢
      have IN' := IN.out
      rw [hsn] at IN'
      have IN := hide IN'
      clear IN' hsn
      go_enter Tryz.func19, Tryz.ntmps19
      go_wp2_with (go_at_call 31; (with_reducible refine (IN.out _ OA.out).mono ?_); rintro e w2 ⟨rfl, o⟩; have O2 := hide (OA.out.trans0 o); clear o)
      go_ret
      exact ⟨rfl, O2.out⟩
    · have b2 : (k == 2) = false := by simpa using k2
      have R : lineT ⟨⟨k, m⟩, n⟩ = [105, 110, 116, 101, 114, 114, 117, 112, 116, 32] ++ itoaF m := by unfold lineT; rw [if_neg k1, if_neg k2]
      rw [R, ← L3]
      clear R L1 L2 L3 q1 q2 IN
      obtain ⟨sn, hsn⟩ : ∃ x, bs (itoaF m) = x := ⟨_, rfl⟩
      rw [hsn] at q3 ⊢
      have IN' := IM.out
      rw [hsn] at IN'
      have IN := hide IN'
      clear IN' hsn
      go_enter Tryz.func19, Tryz.ntmps19
      go_wp2_with (go_at_call 31; (with_reducible refine (IN.out _ OA.out).mono ?_); rintro e w2 ⟨rfl, o⟩; have O2 := hide (OA.out.trans0 o); clear o)
      go_ret
      exact ⟨rfl, O2.out⟩
end Go.Proofs.YteblhklclcjonaaGreatDoor
