/- Spans: what the functions of one span or two compute (plain), and the walks of the smallest functions. No condition. -/
import Derived.Test.YtcocjjapmmpgaaaDoorBase
import Derived.Test.YtcocjjapmmpgaaaDoorProg
import Derived.Deep.RegionHeld3
namespace Go.Proofs.YtcocjjapmmpgaaaDoor
open Go.RowKit
set_option linter.unusedVariables false
set_option linter.all false
set_option maxRecDepth 20000

def mayN (s n : Int) : Bool := decide (0 ≤ s) && decide (s ≤ 2147483647) && decide (0 ≤ n) && decide (n < 1000000000)
theorem may_iff {s n : Int} : mayN s n = true ↔ 0 ≤ s ∧ s ≤ 2147483647 ∧ 0 ≤ n ∧ n < 1000000000 := by simp [mayN, and_assoc]
def tot (s n : Int) : Int := s * 1000000000 + n
def ofN (t : Int) : Int × Int × Int := if 2147483647 < t / 1000000000 then (0, 0, 5) else (t / 1000000000, t % 1000000000, 0)
theorem ofN_full {t : Int} (h : 2147483647 < t / 1000000000) : ofN t = (0, 0, 5) := if_pos h
theorem ofN_ok {t : Int} (h : ¬ 2147483647 < t / 1000000000) : ofN t = (t / 1000000000, t % 1000000000, 0) := if_neg h
def cmpN (a b c d : Int) : Int := if a = c ∧ b = d then 0 else if a < c ∨ a = c ∧ b < d then -1 else 1
def addN (a b c d : Int) : Int × Int × Int := if mayN a b && mayN c d then ofN (tot a b + tot c d) else (0, 0, 2)
def subN (a b c d : Int) : Int × Int × Int := if mayN a b && mayN c d && decide (tot c d ≤ tot a b) then ofN (tot a b - tot c d) else (0, 0, 2)
def timesN (s n k : Int) : Int × Int × Int := if !mayN s n || decide (k < 0) then (0, 0, 2) else if decide (0 < k) && decide (0 < tot s n) && decide (2147483647999999999 / k < tot s n) then (0, 0, 5) else ofN (tot s n * k)
def ticksN (s n : Int) : Int × Int := if !mayN s n then (0, 2) else if 1099511627776 < (tot s n + 999999) / 1000000 then (0, 5) else ((tot s n + 999999) / 1000000, 0)
def ofTN (k : Int) : Int × Int × Int := if k < 0 ∨ 1099511627776 < k then (0, 0, 2) else (k / 1000, k % 1000 * 1000000, 0)
/-- A span and an error. -/
def spE (r : Int × Int × Int) (e : Ending) : Prop := e = .returned (.tuple #[.agg #[.int .i64 r.1, .int .i64 r.2.1], .int .i64 r.2.2])

theorem may15 (s n : Int) (w : World) : Calls Tryd.prog 15 #[.agg #[.int .i64 s, .int .i64 n]] w fun e w' => e = .returned (.bool (mayN s n)) ∧ w' = w.alloc (.cells #[.int .i64 s, .int .i64 n] 23) := by
  go_enter Tryd.func15, Tryd.ntmps15
  go_wp2_with fail
  all_goals go_ret
  all_goals (refine ⟨?_, rfl⟩; first | (simp [mayN, *]; done) | (simp [mayN, *]; omega))
theorem may16 (s n : Int) (w : World) : Calls Tryd.prog 16 #[.agg #[.int .i64 s, .int .i64 n]] w fun e w' => e = .returned (.bool (mayN s n)) ∧ w' = w.alloc (.cells #[.int .i64 s, .int .i64 n] 23) := by
  go_enter Tryd.func16, Tryd.ntmps16
  go_wp2_with fail
  all_goals go_ret
  all_goals (refine ⟨?_, rfl⟩; first | (simp [mayN, *]; done) | (simp [mayN, *]; omega))
theorem num_any (k : Int) (w : World) : Calls Tryd.prog 17 #[.int .i64 k] w fun e w' => e = .returned (.int .i64 k) ∧ w' = w := by
  go_enter Tryd.func17, Tryd.ntmps17
  go_wp2_with fail
  go_ret
  exact ⟨rfl, rfl⟩
theorem half_any (k : Int) (w : World) : Calls Tryd.prog 32 #[.int .i64 k] w fun e w' => e = .returned (.agg #[.int .i64 k, .int .i64 500000000]) ∧ Only [] w w' := by
  have o0 := (Only.refl [] w).alloc (.cells #[.int .i64 k, .int .i64 500000000] 23)
  go_enter Tryd.func32, Tryd.ntmps32
  go_wp2_with fail
  exact bodyPost_ret (v := .agg #[.int .i64 k, .int .i64 500000000]) (by simp [results, Tryd.results32, go_sem]) rfl ⟨rfl, o0⟩
theorem all_any (s n : Int) (h : mayN s n = true) (w : World) : Calls Tryd.prog 31 #[.agg #[.int .i64 s, .int .i64 n]] w fun e w' => e = .returned (.int .i64 (tot s n)) ∧ w' = w.alloc (.cells #[.int .i64 s, .int .i64 n] 23) := by
  have b := may_iff.1 h
  go_enter Tryd.func31, Tryd.ntmps31
  go_wp2_with fail
  go_ret
  exact ⟨rfl, rfl⟩
theorem of_any (t : Int) (h0 : 0 ≤ t) (h1 : t ≤ 9223372036854775807) (w : World) : Calls Tryd.prog 30 #[.int .i64 t] w fun e w' => spE (ofN t) e ∧ Only [] w w' := by
  have e1 : t.tdiv 1000000000 = t / 1000000000 := Int.tdiv_eq_ediv_of_nonneg h0
  have e2 : t.tmod 1000000000 = t % 1000000000 := Int.tmod_eq_emod_of_nonneg h0
  go_enter Tryd.func30, Tryd.ntmps30
  by_cases hf : 2147483647 < t / 1000000000
  · rw [ofN_full hf]
    go_wp2_with fail
    exact bodyPost_ret (v := .tuple #[.agg #[.int .i64 0, .int .i64 0], .int .i64 5]) (by simp [results, Tryd.results30, go_sem]) rfl ⟨rfl, (Only.refl [] w).alloc _⟩
  · rw [ofN_ok hf]
    go_wp2_with fail
    exact bodyPost_ret (v := .tuple #[.agg #[.int .i64 (t / 1000000000), .int .i64 (t % 1000000000)], .int .i64 0]) (by simp [results, Tryd.results30, go_sem]) rfl ⟨rfl, (Only.refl [] w).alloc _⟩
theorem whole_any (s n : Int) (h0 : 0 ≤ s) (h1 : s ≤ 4294967296) (h2 : -1000000000 < n) (h3 : n ≤ 2147483648000000000) (w : World) : Calls Tryd.prog 29 #[.agg #[.int .i64 s, .int .i64 n]] w fun e w' => spE (ofN (tot s n)) e ∧ Only [] w w' := by
  by_cases hn : 1000000000 ≤ n
  · have q1 : tot s n / 1000000000 = s + n / 1000000000 := by unfold tot; omega
    have q2 : tot s n % 1000000000 = n % 1000000000 := by unfold tot; omega
    have e1 : n.tdiv 1000000000 = n / 1000000000 := Int.tdiv_eq_ediv_of_nonneg (by omega)
    have e2 : n.tmod 1000000000 = n % 1000000000 := Int.tmod_eq_emod_of_nonneg (by omega)
    by_cases hf : 2147483647 < s + n / 1000000000
    · rw [ofN_full (by rw [q1]; exact hf)]
      clear q1 q2
      go_enter Tryd.func29, Tryd.ntmps29
      go_wp2_with fail
      exact bodyPost_ret (v := .tuple #[.agg #[.int .i64 (0), .int .i64 (0)], .int .i64 5]) (by simp [results, Tryd.results29, go_sem]) rfl ⟨rfl, ((Only.refl [] w).alloc _).alloc _⟩
    · rw [ofN_ok (by rw [q1]; exact hf), q1, q2]
      clear q1 q2
      go_enter Tryd.func29, Tryd.ntmps29
      go_wp2_with fail
      exact bodyPost_ret (v := .tuple #[.agg #[.int .i64 (s + n / 1000000000), .int .i64 (n % 1000000000)], .int .i64 0]) (by simp [results, Tryd.results29, go_sem]) rfl ⟨rfl, ((Only.refl [] w).alloc _).alloc _⟩
  · by_cases hm : n < 0
    · have q1 : tot s n / 1000000000 = s - 1 := by unfold tot; omega
      have q2 : tot s n % 1000000000 = n + 1000000000 := by unfold tot; omega
      by_cases hf : 2147483647 < s - 1
      · rw [ofN_full (by rw [q1]; exact hf)]
        clear q1 q2
        go_enter Tryd.func29, Tryd.ntmps29
        go_wp2_with fail
        exact bodyPost_ret (v := .tuple #[.agg #[.int .i64 (0), .int .i64 (0)], .int .i64 5]) (by simp [results, Tryd.results29, go_sem]) rfl ⟨rfl, ((Only.refl [] w).alloc _).alloc _⟩
      · rw [ofN_ok (by rw [q1]; exact hf), q1, q2]
        clear q1 q2
        go_enter Tryd.func29, Tryd.ntmps29
        go_wp2_with fail
        exact bodyPost_ret (v := .tuple #[.agg #[.int .i64 (s - 1), .int .i64 (n + 1000000000)], .int .i64 0]) (by simp [results, Tryd.results29, go_sem]) rfl ⟨rfl, ((Only.refl [] w).alloc _).alloc _⟩
    · have q1 : tot s n / 1000000000 = s := by unfold tot; omega
      have q2 : tot s n % 1000000000 = n := by unfold tot; omega
      by_cases hf : 2147483647 < s
      · rw [ofN_full (by rw [q1]; exact hf)]
        clear q1 q2
        go_enter Tryd.func29, Tryd.ntmps29
        go_wp2_with fail
        exact bodyPost_ret (v := .tuple #[.agg #[.int .i64 (0), .int .i64 (0)], .int .i64 5]) (by simp [results, Tryd.results29, go_sem]) rfl ⟨rfl, ((Only.refl [] w).alloc _).alloc _⟩
      · rw [ofN_ok (by rw [q1]; exact hf), q1, q2]
        clear q1 q2
        go_enter Tryd.func29, Tryd.ntmps29
        go_wp2_with fail
        exact bodyPost_ret (v := .tuple #[.agg #[.int .i64 (s), .int .i64 (n)], .int .i64 0]) (by simp [results, Tryd.results29, go_sem]) rfl ⟨rfl, ((Only.refl [] w).alloc _).alloc _⟩
theorem cmp_any (a b c d : Int) (w : World) : Calls Tryd.prog 18 #[.agg #[.int .i64 a, .int .i64 b], .agg #[.int .i64 c, .int .i64 d]] w fun e w' => e = .returned (.int .i64 (cmpN a b c d)) ∧ w' = (w.alloc (.cells #[.int .i64 a, .int .i64 b] 23)).alloc (.cells #[.int .i64 c, .int .i64 d] 23) := by
  go_enter Tryd.func18, Tryd.ntmps18
  go_wp2_with fail
  all_goals go_ret
  all_goals subst_vars
  all_goals refine ⟨?_, rfl⟩
  all_goals first | (simp [cmpN]; done) | (simp [cmpN, *]; done) | (simp [cmpN, *]; omega)
theorem rcmp_any (a b c d : Int) (w : World) : Calls Tryd.prog 19 #[.agg #[.int .i64 a, .int .i64 b], .agg #[.int .i64 c, .int .i64 d]] w fun e w' => e = .returned (.int .i64 (cmpN a b c d)) ∧ w' = (w.alloc (.cells #[.int .i64 a, .int .i64 b] 23)).alloc (.cells #[.int .i64 c, .int .i64 d] 23) := by
  go_enter Tryd.func19, Tryd.ntmps19
  go_wp2_with fail
  all_goals go_ret
  all_goals subst_vars
  all_goals refine ⟨?_, rfl⟩
  all_goals first | (simp [cmpN]; done) | (simp [cmpN, *]; done) | (simp [cmpN, *]; omega)
theorem ofT_any (k : Int) (w : World) : Calls Tryd.prog 23 #[.int .i64 k] w fun e w' => spE (ofTN k) e ∧ Only [] w w' := by
  by_cases hf : k < 0 ∨ 1099511627776 < k
  · rw [show ofTN k = (0, 0, 2) from if_pos hf]
    rcases hf with hf | hf
    · go_enter Tryd.func23, Tryd.ntmps23
      go_wp2_with fail
      exact bodyPost_ret (v := .tuple #[.agg #[.int .i64 0, .int .i64 0], .int .i64 2]) (by simp [results, Tryd.results23, go_sem]) rfl ⟨rfl, (Only.refl [] w).alloc _⟩
    · have hf0 : ¬ k < 0 := by omega
      go_enter Tryd.func23, Tryd.ntmps23
      go_wp2_with fail
      exact bodyPost_ret (v := .tuple #[.agg #[.int .i64 0, .int .i64 0], .int .i64 2]) (by simp [results, Tryd.results23, go_sem]) rfl ⟨rfl, (Only.refl [] w).alloc _⟩
  · rw [show ofTN k = (k / 1000, k % 1000 * 1000000, 0) from if_neg hf]
    have f0 : ¬ k < 0 := by omega
    have f1 : ¬ 1099511627776 < k := by omega
    have e1 : k.tdiv 1000 = k / 1000 := Int.tdiv_eq_ediv_of_nonneg (by omega)
    have e2 : k.tmod 1000 = k % 1000 := Int.tmod_eq_emod_of_nonneg (by omega)
    clear hf
    go_enter Tryd.func23, Tryd.ntmps23
    go_wp2_with fail
    exact bodyPost_ret (v := .tuple #[.agg #[.int .i64 (k / 1000), .int .i64 (k % 1000 * 1000000)], .int .i64 0]) (by simp [results, Tryd.results23, go_sem]) rfl ⟨rfl, (Only.refl [] w).alloc _⟩
theorem rofT_any (k : Int) (w : World) : Calls Tryd.prog 24 #[.int .i64 k] w fun e w' => spE (ofTN k) e ∧ Only [] w w' := by
  by_cases hf : k < 0 ∨ 1099511627776 < k
  · rw [show ofTN k = (0, 0, 2) from if_pos hf]
    rcases hf with hf | hf
    · go_enter Tryd.func24, Tryd.ntmps24
      go_wp2_with fail
      exact bodyPost_ret (v := .tuple #[.agg #[.int .i64 0, .int .i64 0], .int .i64 2]) (by simp [results, Tryd.results24, go_sem]) rfl ⟨rfl, (Only.refl [] w).alloc _⟩
    · have hf0 : ¬ k < 0 := by omega
      go_enter Tryd.func24, Tryd.ntmps24
      go_wp2_with fail
      exact bodyPost_ret (v := .tuple #[.agg #[.int .i64 0, .int .i64 0], .int .i64 2]) (by simp [results, Tryd.results24, go_sem]) rfl ⟨rfl, (Only.refl [] w).alloc _⟩
  · rw [show ofTN k = (k / 1000, k % 1000 * 1000000, 0) from if_neg hf]
    have f0 : ¬ k < 0 := by omega
    have f1 : ¬ 1099511627776 < k := by omega
    have e1 : k.tdiv 1000 = k / 1000 := Int.tdiv_eq_ediv_of_nonneg (by omega)
    have e2 : k.tmod 1000 = k % 1000 := Int.tmod_eq_emod_of_nonneg (by omega)
    clear hf
    go_enter Tryd.func24, Tryd.ntmps24
    go_wp2_with fail
    exact bodyPost_ret (v := .tuple #[.agg #[.int .i64 (k / 1000), .int .i64 (k % 1000 * 1000000)], .int .i64 0]) (by simp [results, Tryd.results24, go_sem]) rfl ⟨rfl, (Only.refl [] w).alloc _⟩
end Go.Proofs.YtcocjjapmmpgaaaDoor
