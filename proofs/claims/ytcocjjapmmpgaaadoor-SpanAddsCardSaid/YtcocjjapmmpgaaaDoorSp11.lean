/- Spans: plain laws: ticks there and back, sums taken apart. No condition. -/
import Derived.Test.YtcocjjapmmpgaaaDoorSp3
namespace Go.Proofs.YtcocjjapmmpgaaaDoor
set_option linter.unusedVariables false
set_option linter.all false

theorem ticks_cases (s n : Int) : (mayN s n = false ∧ ticksN s n = (0, 2)) ∨ (mayN s n = true ∧ 1099511627776 < (tot s n + 999999) / 1000000 ∧ ticksN s n = (0, 5)) ∨ (mayN s n = true ∧ ¬ 1099511627776 < (tot s n + 999999) / 1000000 ∧ ticksN s n = ((tot s n + 999999) / 1000000, 0)) := by
  unfold ticksN
  cases h : mayN s n
  · exact .inl ⟨rfl, by simp⟩
  · by_cases hf : 1099511627776 < (tot s n + 999999) / 1000000
    · exact .inr (.inl ⟨rfl, hf, by simp [hf]⟩)
    · exact .inr (.inr ⟨rfl, hf, by simp [hf]⟩)
theorem ofN_cases (t : Int) : (2147483647 < t / 1000000000 ∧ ofN t = (0, 0, 5)) ∨ (t / 1000000000 ≤ 2147483647 ∧ ofN t = (t / 1000000000, t % 1000000000, 0)) := by
  by_cases h : 2147483647 < t / 1000000000
  · exact .inl ⟨h, ofN_full h⟩
  · exact .inr ⟨by omega, ofN_ok h⟩
theorem ofT_cases (k : Int) : (ofTN k = (0, 0, 2)) ∨ (0 ≤ k ∧ k ≤ 1099511627776 ∧ ofTN k = (k / 1000, k % 1000 * 1000000, 0)) := by
  unfold ofTN
  by_cases h : k < 0 ∨ 1099511627776 < k
  · exact .inl (if_pos h)
  · exact .inr ⟨by omega, by omega, if_neg h⟩
/-- Ticks that are made a span are as many. -/
theorem back_ticks {k s n : Int} (h : ofTN k = (s, n, 0)) : ticksN s n = (k, 0) := by
  rcases ofT_cases k with h1 | ⟨h1, h2, h3⟩
  · rw [h1] at h; simp at h
  · rw [h3] at h
    simp only [Prod.mk.injEq] at h
    obtain ⟨rfl, rfl, _⟩ := h
    have hm : mayN (k / 1000) (k % 1000 * 1000000) = true := may_iff.2 (by omega)
    have ht : (tot (k / 1000) (k % 1000 * 1000000) + 999999) / 1000000 = k := by unfold tot; omega
    rcases ticks_cases (k / 1000) (k % 1000 * 1000000) with ⟨h4, _⟩ | ⟨_, h4, _⟩ | ⟨_, _, h4⟩
    · rw [hm] at h4; simp at h4
    · rw [ht] at h4; omega
    · rw [h4, ht]
theorem add_cases (a b c d : Int) : (addN a b c d = (0, 0, 2) ∧ ¬ (mayN a b = true ∧ mayN c d = true)) ∨ (mayN a b = true ∧ mayN c d = true ∧ addN a b c d = ofN (tot a b + tot c d)) := by
  unfold addN
  cases h1 : mayN a b <;> cases h2 : mayN c d <;> simp
theorem sub_cases (a b c d : Int) : (subN a b c d = (0, 0, 2) ∧ ¬ (mayN a b = true ∧ mayN c d = true ∧ tot c d ≤ tot a b)) ∨ (mayN a b = true ∧ mayN c d = true ∧ tot c d ≤ tot a b ∧ subN a b c d = ofN (tot a b - tot c d)) := by
  unfold subN
  cases h1 : mayN a b <;> cases h2 : mayN c d <;> by_cases h3 : tot c d ≤ tot a b <;> simp [h3]
/-- What is added and taken away is there again. -/
theorem back_add {a b c d x y : Int} (h : addN a b c d = (x, y, 0)) : subN x y c d = (a, b, 0) := by
  rcases add_cases a b c d with ⟨h1, _⟩ | ⟨h1, h2, h3⟩
  · rw [h1] at h; simp at h
  · rw [h3] at h
    have b1 := may_iff.1 h1
    have b2 := may_iff.1 h2
    rcases ofN_cases (tot a b + tot c d) with ⟨_, h4⟩ | ⟨h4, h5⟩
    · rw [h4] at h; simp at h
    · rw [h5] at h
      simp only [Prod.mk.injEq] at h
      obtain ⟨rfl, rfl, _⟩ := h
      have hm : mayN ((tot a b + tot c d) / 1000000000) ((tot a b + tot c d) % 1000000000) = true := may_iff.2 (by unfold tot at *; omega)
      have ht : tot ((tot a b + tot c d) / 1000000000) ((tot a b + tot c d) % 1000000000) = tot a b + tot c d := by unfold tot; omega
      rcases sub_cases ((tot a b + tot c d) / 1000000000) ((tot a b + tot c d) % 1000000000) c d with ⟨_, h6⟩ | ⟨_, _, _, h6⟩
      · exact absurd ⟨hm, h2, by rw [ht]; unfold tot; omega⟩ h6
      · rw [h6, ht, show tot a b + tot c d - tot c d = tot a b by omega, ofN_ok (by unfold tot; omega)]
        have q1 : tot a b / 1000000000 = a := by unfold tot; omega
        have q2 : tot a b % 1000000000 = b := by unfold tot; omega
        rw [q1, q2]
theorem ticks_code {s n x e : Int} (h : ticksN s n = (x, e)) : e = 0 ∨ e = 2 ∨ e = 5 := by
  rcases ticks_cases s n with ⟨_, h1⟩ | ⟨_, _, h1⟩ | ⟨_, _, h1⟩ <;> rw [h1] at h <;> simp only [Prod.mk.injEq] at h <;> omega
theorem ticks_ok {s n x : Int} (h : ticksN s n = (x, 0)) : mayN s n = true ∧ x = (tot s n + 999999) / 1000000 ∧ 0 ≤ x ∧ x ≤ 1099511627776 := by
  rcases ticks_cases s n with ⟨_, h1⟩ | ⟨_, _, h1⟩ | ⟨hm, h2, h1⟩ <;> rw [h1] at h <;> simp only [Prod.mk.injEq] at h
  · omega
  · omega
  · have b := may_iff.1 hm
    refine ⟨hm, h.1.symm, ?_, by omega⟩
    unfold tot at *; omega
/-- What is longer has no fewer ticks. -/
theorem back_cmp {a b c d x y : Int} (h1 : ticksN a b = (x, 0)) (h2 : ticksN c d = (y, 0)) (h : cmpN a b c d < 0) : x ≤ y := by
  obtain ⟨m1, e1, _, _⟩ := ticks_ok h1
  obtain ⟨m2, e2, _, _⟩ := ticks_ok h2
  have b1 := may_iff.1 m1
  have b2 := may_iff.1 m2
  unfold cmpN at h
  split at h
  · omega
  · split at h
    · unfold tot at *; omega
    · omega
/-- A span that is made ticks is no shorter than it, and longer by less than a tick. -/
theorem back_up {a b x : Int} (h1 : ticksN a b = (x, 0)) : ∃ u v r, ofTN x = (u, v, 0) ∧ subN u v a b = (0, r, 0) ∧ r < 1000000 := by
  obtain ⟨m1, e1, l1, l2⟩ := ticks_ok h1
  have b1 := may_iff.1 m1
  refine ⟨x / 1000, x % 1000 * 1000000, x * 1000000 - tot a b, ?_, ?_, ?_⟩
  · rcases ofT_cases x with h | ⟨_, _, h⟩
    · unfold ofTN at h ⊢; rw [if_neg (by omega)]
    · exact h
  · have hx : tot (x / 1000) (x % 1000 * 1000000) = x * 1000000 := by unfold tot; omega
    have hge : tot a b ≤ x * 1000000 := by unfold tot at *; omega
    have hlt : x * 1000000 - tot a b < 1000000 := by unfold tot at *; omega
    by_cases hm : mayN (x / 1000) (x % 1000 * 1000000) = true
    · rcases sub_cases (x / 1000) (x % 1000 * 1000000) a b with ⟨_, h⟩ | ⟨_, _, _, h⟩
      · exact absurd ⟨hm, m1, by rw [hx]; exact hge⟩ h
      · rw [h, hx, ofN_ok (by omega)]
        have q1 : (x * 1000000 - tot a b) / 1000000000 = 0 := by omega
        have q2 : (x * 1000000 - tot a b) % 1000000000 = x * 1000000 - tot a b := by omega
        rw [q1, q2]
    · exact absurd (may_iff.2 (by unfold tot at *; omega)) hm
  · unfold tot at *; omega
end Go.Proofs.YtcocjjapmmpgaaaDoor
