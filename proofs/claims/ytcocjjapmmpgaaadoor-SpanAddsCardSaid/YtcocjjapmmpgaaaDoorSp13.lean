/- Spans: plain laws of sums: in any order, in any parts; so many times one. No condition. -/
import Derived.Test.YtcocjjapmmpgaaaDoorSp11
namespace Go.Proofs.YtcocjjapmmpgaaaDoor
set_option linter.unusedVariables false
set_option linter.all false

theorem addN_comm (a b c d : Int) : addN a b c d = addN c d a b := by
  unfold addN
  rw [Bool.and_comm, Int.add_comm]
theorem tot_inj {a b c d : Int} (h1 : mayN a b = true) (h2 : mayN c d = true) (h : tot a b = tot c d) : a = c ∧ b = d := by
  have b1 := may_iff.1 h1
  have b2 := may_iff.1 h2
  unfold tot at h
  omega
theorem ofN_good {t : Int} (h0 : 0 ≤ t) (h : t ≤ 2147483647999999999) : ∃ x y, ofN t = (x, y, 0) ∧ mayN x y = true ∧ tot x y = t := by
  refine ⟨t / 1000000000, t % 1000000000, ofN_ok (by omega), may_iff.2 (by omega), ?_⟩
  unfold tot; omega
theorem ofN_bad {t : Int} (h : ¬ t ≤ 2147483647999999999) : ofN t = (0, 0, 5) := ofN_full (by omega)
theorem tot_bounds {a b : Int} (h : mayN a b = true) : 0 ≤ tot a b ∧ tot a b ≤ 2147483647999999999 := by
  have b1 := may_iff.1 h
  unfold tot; omega
theorem ofN_tot {a b : Int} (h : mayN a b = true) : ofN (tot a b) = (a, b, 0) := by
  have hb := tot_bounds h
  obtain ⟨x, y, h1, h2, h3⟩ := ofN_good hb.1 hb.2
  obtain ⟨rfl, rfl⟩ := tot_inj h2 h h3
  exact h1
theorem add_code {a b c d x y e : Int} (h : addN a b c d = (x, y, e)) : e = 0 ∨ e = 2 ∨ e = 5 := by
  rcases add_cases a b c d with ⟨h1, _⟩ | ⟨_, _, h1⟩
  · rw [h1] at h; simp only [Prod.mk.injEq] at h; omega
  · rw [h1] at h
    rcases ofN_cases (tot a b + tot c d) with ⟨_, h4⟩ | ⟨_, h4⟩ <;> rw [h4] at h <;> simp only [Prod.mk.injEq] at h <;> omega
theorem add_ok {a b c d x y : Int} (h : addN a b c d = (x, y, 0)) : mayN a b = true ∧ mayN c d = true ∧ mayN x y = true ∧ tot x y = tot a b + tot c d := by
  rcases add_cases a b c d with ⟨h1, _⟩ | ⟨m1, m2, h1⟩
  · rw [h1] at h; simp at h
  · rw [h1] at h
    have b1 := tot_bounds m1
    have b2 := tot_bounds m2
    by_cases hf : tot a b + tot c d ≤ 2147483647999999999
    · obtain ⟨u, v, h2, h3, h4⟩ := ofN_good (by omega) hf
      rw [h2] at h
      simp only [Prod.mk.injEq] at h
      obtain ⟨rfl, rfl, _⟩ := h
      exact ⟨m1, m2, h3, h4⟩
    · rw [ofN_bad hf] at h; simp at h
theorem add_fits {a b c d : Int} (m1 : mayN a b = true) (m2 : mayN c d = true) (hf : tot a b + tot c d ≤ 2147483647999999999) : ∃ x y, addN a b c d = (x, y, 0) ∧ mayN x y = true ∧ tot x y = tot a b + tot c d := by
  have b1 := tot_bounds m1
  have b2 := tot_bounds m2
  obtain ⟨u, v, h2, h3, h4⟩ := ofN_good (t := tot a b + tot c d) (by omega) hf
  exact ⟨u, v, by unfold addN; rw [if_pos (by simp [m1, m2])]; exact h2, h3, h4⟩
theorem add_full {a b c d : Int} (m1 : mayN a b = true) (m2 : mayN c d = true) (hf : ¬ tot a b + tot c d ≤ 2147483647999999999) : addN a b c d = (0, 0, 5) := by
  unfold addN; rw [if_pos (by simp [m1, m2])]; exact ofN_bad hf
theorem cmp_ge {a b c d : Int} (m1 : mayN a b = true) (m2 : mayN c d = true) (h : tot c d ≤ tot a b) : 0 ≤ cmpN a b c d := by
  have b1 := may_iff.1 m1
  have b2 := may_iff.1 m2
  unfold tot at h
  unfold cmpN
  split
  · omega
  · rw [if_neg (by omega)]; omega
theorem times_good {s n k S N : Int} (h : mayN s n = true) (hk : 0 ≤ k) (m : mayN S N = true) (ht : tot S N = k * tot s n) : timesN s n k = (S, N, 0) := by
  have b1 := tot_bounds h
  have b2 := tot_bounds m
  unfold timesN
  rw [if_neg (by simp [h]; omega), if_neg]
  · rw [Int.mul_comm, ← ht]; exact ofN_tot m
  · simp only [Bool.and_eq_true, decide_eq_true_eq]
    rintro ⟨⟨h1, h2⟩, h3⟩
    have := (mul_quot (A := k) (k := tot s n) h1 (by decide)).1 h3
    omega
theorem times_bad {s n k : Int} {j : Nat} (h : mayN s n = true) (hk : (j : Int) + 1 ≤ k) (ht : ¬ (j : Int) * tot s n + tot s n ≤ 2147483647999999999) : timesN s n k = (0, 0, 5) := by
  have b1 := tot_bounds h
  have hm : ((j : Int) + 1) * tot s n ≤ k * tot s n := Int.mul_le_mul_of_nonneg_right hk b1.1
  have he : ((j : Int) + 1) * tot s n = (j : Int) * tot s n + tot s n := by rw [Int.add_mul, Int.one_mul]
  have hp : 0 < tot s n := by
    rcases Int.lt_or_le 0 (tot s n) with q | q
    · exact q
    · have : tot s n = 0 := by omega
      rw [this] at ht; simp at ht
  unfold timesN
  rw [if_neg (by simp [h]; omega), if_pos]
  simp only [Bool.and_eq_true, decide_eq_true_eq]
  refine ⟨⟨by omega, hp⟩, (mul_quot (A := k) (k := tot s n) (by omega) (by decide)).2 (by omega)⟩
end Go.Proofs.YtcocjjapmmpgaaaDoor
