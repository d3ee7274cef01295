/- Spans: the walks of Times, Ticks. No condition. -/
import Derived.Test.YtcocjjapmmpgaaaDoorSp2
namespace Go.Proofs.YtcocjjapmmpgaaaDoor
open Go.RowKit
set_option linter.unusedVariables false
set_option linter.all false
set_option maxRecDepth 20000

theorem Calls.eqw {f : Nat} {args : Array Value} {w : World} {Q Q' : Ending → World → Prop} (h : Calls Tryd.prog f args w Q) (he : Q = Q') : Calls Tryd.prog f args w Q' := he ▸ h
/-- A bound of a product. -/
theorem mul_quot {A k B : Int} (hA : 0 < A) (hB : 0 ≤ B) : B / A < k ↔ B < A * k := by
  rw [Int.ediv_lt_iff_lt_mul hA, Int.mul_comm]
theorem mul_low {A k : Int} (hA : 0 ≤ A) (hk : 0 ≤ k) : 0 ≤ A * k := Int.mul_nonneg hA hk
theorem times_arg {s n k : Int} (h : mayN s n = false ∨ k < 0) : timesN s n k = (0, 0, 2) := by
  unfold timesN; rw [if_pos]; rcases h with h | h <;> simp [h]
theorem times_nil {s n k : Int} (h : mayN s n = true) (hk : 0 ≤ k) (h0 : tot s n = 0 ∨ k = 0) : timesN s n k = (0, 0, 0) := by
  unfold timesN
  rw [if_neg (by simp [h]; omega)]
  rw [if_neg (by rcases h0 with h0 | h0 <;> simp [h0])]
  rw [show tot s n * k = 0 by rcases h0 with h0 | h0 <;> simp [h0]]
  decide
theorem times_full {s n k : Int} (h : mayN s n = true) (hk : 0 < k) (h0 : 0 < tot s n) (hf : 2147483647999999999 / tot s n < k) : timesN s n k = (0, 0, 5) := by
  unfold timesN
  rw [if_neg (by simp [h]; omega)]
  rw [if_pos]
  simp [hk, h0]
  rw [mul_quot hk (by decide), Int.mul_comm]
  exact (mul_quot h0 (by decide)).1 hf
theorem times_of {s n k : Int} (h : mayN s n = true) (hk : 0 < k) (h0 : 0 < tot s n) (hf : ¬ 2147483647999999999 / tot s n < k) : timesN s n k = ofN (tot s n * k) := by
  unfold timesN
  rw [if_neg (by simp [h]; omega)]
  rw [if_neg]
  simp [hk, h0]
  have := mt (mul_quot h0 (by decide)).2 hf
  have := mt (mul_quot (A := k) (B := 2147483647999999999) (k := tot s n) hk (by decide)).1 (by rw [Int.mul_comm]; exact this)
  omega
theorem times_any (s n k : Int) (hk1 : -9223372036854775808 ≤ k) (hk2 : k ≤ 9223372036854775807) (w : World) : Calls Tryd.prog 13 #[.agg #[.int .i64 s, .int .i64 n], .int .i64 k] w fun e w' => spE (timesN s n k) e ∧ Only [] w w' := by
  have C1 := fun W => may15 s n W
  cases h1 : mayN s n
  · rw [times_arg (.inl h1)]
    simp only [h1] at C1
    have K1 := hide C1
    clear C1 h1
    go_enter Tryd.func13, Tryd.ntmps13
    go_wp2_with (first
      | (go_at_call 15; refine (K1.out _).mono ?_; rintro e w' ⟨rfl, rfl⟩))
    exact bodyPost_ret (v := .tuple #[.agg #[.int .i64 0, .int .i64 0], .int .i64 2]) (by simp [results, Tryd.results13, go_sem]) rfl ⟨rfl, (by repeat (first | exact Only.refl _ _ | refine Only.alloc ?_ _))⟩
  have b := may_iff.1 h1
  have hA : s * 1000000000 + n = tot s n := rfl
  have hA0 : 0 ≤ tot s n := by unfold tot; omega
  have hA1 : tot s n ≤ 2147483647999999999 := by unfold tot; omega
  simp only [h1] at C1
  by_cases hk : k < 0
  · rw [times_arg (.inr hk)]
    have K1 := hide C1
    clear C1 h1
    generalize tot s n = A at *
    go_enter Tryd.func13, Tryd.ntmps13
    go_wp2_with (first
      | (go_at_call 15; refine (K1.out _).mono ?_; rintro e w' ⟨rfl, rfl⟩))
    exact bodyPost_ret (v := .tuple #[.agg #[.int .i64 0, .int .i64 0], .int .i64 2]) (by simp [results, Tryd.results13, go_sem]) rfl ⟨rfl, (by repeat (first | exact Only.refl _ _ | refine Only.alloc ?_ _))⟩
  by_cases h0 : tot s n = 0
  · rw [times_nil h1 (by omega) (.inl h0)]
    have K1 := hide C1
    clear C1 h1
    generalize tot s n = A at *
    subst h0
    go_enter Tryd.func13, Tryd.ntmps13
    go_wp2_with (first
      | (go_at_call 15; refine (K1.out _).mono ?_; rintro e w' ⟨rfl, rfl⟩))
    exact bodyPost_ret (v := .tuple #[.agg #[.int .i64 0, .int .i64 0], .int .i64 0]) (by simp [results, Tryd.results13, go_sem]) rfl ⟨rfl, (by repeat (first | exact Only.refl _ _ | refine Only.alloc ?_ _))⟩
  by_cases hz : k = 0
  · rw [times_nil h1 (by omega) (.inr hz)]
    have K1 := hide C1
    clear C1 h1
    generalize tot s n = A at *
    subst hz
    go_enter Tryd.func13, Tryd.ntmps13
    go_wp2_with (first
      | (go_at_call 15; refine (K1.out _).mono ?_; rintro e w' ⟨rfl, rfl⟩))
    exact bodyPost_ret (v := .tuple #[.agg #[.int .i64 0, .int .i64 0], .int .i64 0]) (by simp [results, Tryd.results13, go_sem]) rfl ⟨rfl, (by repeat (first | exact Only.refl _ _ | refine Only.alloc ?_ _))⟩
  have e1 : (2147483647999999999 : Int).tdiv (tot s n) = 2147483647999999999 / tot s n := Int.tdiv_eq_ediv_of_nonneg (by decide)
  have q0 : 0 ≤ 2147483647999999999 / tot s n := Int.ediv_nonneg (by decide) (by omega)
  have q1 : 2147483647999999999 / tot s n ≤ 2147483647999999999 := Int.ediv_le_self _ (by decide)
  by_cases hf : 2147483647999999999 / tot s n < k
  · rw [times_full h1 (by omega) (by omega) hf]
    have K1 := hide C1
    clear C1 h1
    generalize tot s n = A at *
    have g0 : (A == 0) = false := by simp [h0]
    have g1 : (k == 0) = false := by simp [hz]
    generalize 2147483647999999999 / A = Q at *
    go_enter Tryd.func13, Tryd.ntmps13
    go_wp2_with (first
      | (go_at_call 15; refine (K1.out _).mono ?_; rintro e w' ⟨rfl, rfl⟩))
    exact bodyPost_ret (v := .tuple #[.agg #[.int .i64 0, .int .i64 0], .int .i64 5]) (by simp [results, Tryd.results13, go_sem]) rfl ⟨rfl, (by repeat (first | exact Only.refl _ _ | refine Only.alloc ?_ _))⟩
  · rw [times_of h1 (by omega) (by omega) hf]
    have hm := mt (mul_quot (k := k) (A := tot s n) (B := 2147483647999999999) (by omega) (by decide)).2 hf
    have hl := mul_low (A := tot s n) (k := k) (by omega) (by omega)
    have hC : tot 0 (tot s n * k) = tot s n * k := by simp [tot]
    have CW := fun W => whole_any 0 (tot s n * k) (by decide) (by decide) (by omega) (by omega) W
    rw [hC] at CW
    have K1 := hide C1
    have KW := hide CW
    clear C1 CW hC h1
    generalize tot s n = A at *
    obtain ⟨P, hP⟩ : ∃ P, A * k = P := ⟨_, rfl⟩
    simp only [hP] at KW hm hl ⊢
    have g0 : (A == 0) = false := by simp [h0]
    have g1 : (k == 0) = false := by simp [hz]
    generalize 2147483647999999999 / A = Q at *
    go_enter Tryd.func13, Tryd.ntmps13
    go_wp2_with (first
      | (go_at_call 15; refine (K1.out _).mono ?_; rintro e w' ⟨rfl, rfl⟩)
      | (go_at_call 29; refine (KW.out _).mono ?_; rintro e w' ⟨rfl, o⟩; have hz := (((blkY w #[.int .i64 s, .int .i64 n]).alloc (.cells #[.int .i64 s, .int .i64 n] 23))).only o (by simp); have z0 := hz.cell 0; have z1 := hz.cell 1; have f0 := hz.frozen 0; have f1 := hz.frozen 1; simp at z0 z1; have hl := hz.lt; have oo : Only [] w w' := Only.trans0 (by repeat (first | exact Only.refl _ _ | refine Only.alloc ?_ _)) o; clear o hz))
    refine bodyPost_ret (v := .tuple #[.agg #[.int .i64 (ofN P).1, .int .i64 (ofN P).2.1], .int .i64 (ofN P).2.2]) (by simp [results, Tryd.results13, go_sem, z0, z1]) rfl ⟨rfl, ?_⟩
    exact (oo.setCell (.inr (by first | (simp; done) | (simp; omega))) _).setCell (.inr (by first | (simp; done) | (simp; omega))) _
def inE (r : Int × Int) (e : Ending) : Prop := e = .returned (.tuple #[.int .i64 r.1, .int .i64 r.2])
theorem ticks_any (s n : Int) (w : World) : Calls Tryd.prog 21 #[.agg #[.int .i64 s, .int .i64 n]] w fun e w' => inE (ticksN s n) e ∧ Only [] w w' := by
  have C1 := fun W => may15 s n W
  cases h1 : mayN s n
  · rw [show ticksN s n = (0, 2) by simp [ticksN, h1]]
    simp only [h1] at C1
    have K1 := hide C1
    clear C1 h1
    go_enter Tryd.func21, Tryd.ntmps21
    go_wp2_with (first
      | (go_at_call 15; refine (K1.out _).mono ?_; rintro e w' ⟨rfl, rfl⟩))
    exact bodyPost_ret (v := .tuple #[.int .i64 0, .int .i64 2]) (by simp [results, Tryd.results21, go_sem]) rfl ⟨rfl, (by repeat (first | exact Only.refl _ _ | refine Only.alloc ?_ _))⟩
  have b := may_iff.1 h1
  simp only [h1] at C1
  have E1 : (n + 1000000 - 1).tdiv 1000000 = (n + 1000000 - 1) / 1000000 := Int.tdiv_eq_ediv_of_nonneg (by omega)
  have E2 : (n + 999999).tdiv 1000000 = (n + 999999) / 1000000 := Int.tdiv_eq_ediv_of_nonneg (by omega)
  have X1 : (tot s n + 999999) / 1000000 = s * 1000 + (n + 1000000 - 1) / 1000000 := by unfold tot; omega
  by_cases hf : 1099511627776 < s * 1000 + (n + 1000000 - 1) / 1000000
  · rw [show ticksN s n = (0, 5) by simp only [ticksN, h1, Bool.not_true, Bool.false_eq_true, if_false]; rw [if_pos (by rw [X1]; exact hf)]]
    have K1 := hide C1
    clear X1
    clear C1 h1
    go_enter Tryd.func21, Tryd.ntmps21
    go_wp2_with (first
      | (go_at_call 15; refine (K1.out _).mono ?_; rintro e w' ⟨rfl, rfl⟩))
    exact bodyPost_ret (v := .tuple #[.int .i64 (0), .int .i64 5]) (by simp [results, Tryd.results21, go_sem]) rfl ⟨rfl, (by repeat (first | exact Only.refl _ _ | refine Only.alloc ?_ _))⟩
  · rw [show ticksN s n = (s * 1000 + (n + 1000000 - 1) / 1000000, 0) by simp only [ticksN, h1, Bool.not_true, Bool.false_eq_true, if_false]; rw [if_neg (by rw [X1]; exact hf)]; rw [X1]]
    have K1 := hide C1
    clear X1
    clear C1 h1
    go_enter Tryd.func21, Tryd.ntmps21
    go_wp2_with (first
      | (go_at_call 15; refine (K1.out _).mono ?_; rintro e w' ⟨rfl, rfl⟩))
    exact bodyPost_ret (v := .tuple #[.int .i64 (s * 1000 + (n + 1000000 - 1) / 1000000), .int .i64 0]) (by simp [results, Tryd.results21, go_sem]) rfl ⟨rfl, (by repeat (first | exact Only.refl _ _ | refine Only.alloc ?_ _))⟩
theorem rticks_any (s n : Int) (w : World) : Calls Tryd.prog 22 #[.agg #[.int .i64 s, .int .i64 n]] w fun e w' => inE (ticksN s n) e ∧ Only [] w w' := by
  have C1 := fun W => may16 s n W
  cases h1 : mayN s n
  · rw [show ticksN s n = (0, 2) by simp [ticksN, h1]]
    simp only [h1] at C1
    have K1 := hide C1
    clear C1 h1
    go_enter Tryd.func22, Tryd.ntmps22
    go_wp2_with (first
      | (go_at_call 16; refine (K1.out _).mono ?_; rintro e w' ⟨rfl, rfl⟩))
    exact bodyPost_ret (v := .tuple #[.int .i64 0, .int .i64 2]) (by simp [results, Tryd.results22, go_sem]) rfl ⟨rfl, (by repeat (first | exact Only.refl _ _ | refine Only.alloc ?_ _))⟩
  have b := may_iff.1 h1
  simp only [h1] at C1
  have C2 := fun W => all_any s n h1 W
  have E1 : (tot s n + 999999).tdiv 1000000 = (tot s n + 999999) / 1000000 := Int.tdiv_eq_ediv_of_nonneg (by unfold tot; omega)
  have t0 : 0 ≤ tot s n := by unfold tot; omega
  have t1 : tot s n ≤ 2147483647999999999 := by unfold tot; omega
  by_cases hf : 1099511627776 < (tot s n + 999999) / 1000000
  · rw [show ticksN s n = (0, 5) by simp only [ticksN, h1, Bool.not_true, Bool.false_eq_true, if_false]; rw [if_pos (by exact hf)]]
    have K1 := hide C1
    have K2 := hide C2
    clear C2
    clear C1 h1
    generalize tot s n = A at *
    go_enter Tryd.func22, Tryd.ntmps22
    go_wp2_with (first
      | (go_at_call 16; refine (K1.out _).mono ?_; rintro e w' ⟨rfl, rfl⟩)
      | (go_at_call 31; refine (K2.out _).mono ?_; rintro e w' ⟨rfl, rfl⟩))
    exact bodyPost_ret (v := .tuple #[.int .i64 (0), .int .i64 5]) (by simp [results, Tryd.results22, go_sem]) rfl ⟨rfl, (by repeat (first | exact Only.refl _ _ | refine Only.alloc ?_ _))⟩
  · rw [show ticksN s n = ((tot s n + 999999) / 1000000, 0) by simp only [ticksN, h1, Bool.not_true, Bool.false_eq_true, if_false]; rw [if_neg (by exact hf)]]
    have K1 := hide C1
    have K2 := hide C2
    clear C2
    clear C1 h1
    generalize tot s n = A at *
    go_enter Tryd.func22, Tryd.ntmps22
    go_wp2_with (first
      | (go_at_call 16; refine (K1.out _).mono ?_; rintro e w' ⟨rfl, rfl⟩)
      | (go_at_call 31; refine (K2.out _).mono ?_; rintro e w' ⟨rfl, rfl⟩))
    exact bodyPost_ret (v := .tuple #[.int .i64 ((A + 999999) / 1000000), .int .i64 0]) (by simp [results, Tryd.results22, go_sem]) rfl ⟨rfl, (by repeat (first | exact Only.refl _ _ | refine Only.alloc ?_ _))⟩
end Go.Proofs.YtcocjjapmmpgaaaDoor
