/- Turns: the walk of TurnsRobin. No condition. -/
import Derived.Test.YtnndengdlokmbaaTu14
namespace Go.Proofs.Ytnndengdlokmbaa
open Go.RowKit
set_option linter.unusedVariables false
set_option linter.all false
set_option maxRecDepth 20000

theorem BS.eq {W : World} {x g : Nat} {Q : Int} {s : SS} {B B' : Int} (h : B = B') (k : BS W x g Q s B) : BS W x g Q s B' := h ▸ k

set_option maxHeartbeats 4000000 in
theorem robin_out (Q T P N : Int) (h : ¬ (1 ≤ Q ∧ Q ≤ 100 ∧ 1 ≤ T ∧ T ≤ 16 ∧ 1 ≤ P ∧ P ≤ 31 ∧ 0 ≤ N ∧ N ≤ 2000)) (w : World) : Calls Try.prog 3 #[.int .i64 Q, .int .i64 T, .int .i64 P, .int .i64 N] w fun e w' => e = .returned (.bool true) ∧ Only [] w w' := by
  by_cases c0 : Q < 1
  · have d0 : decide (Q < 1) = true := decide_eq_true c0
    clear h c0
    go_enter Try.func3, Try.ntmps3
    go_wp2_with (go_at_call 9; refine (known_any _).mono ?_; rintro e w2 ⟨rfl, o2⟩)
    go_ret
    exact ⟨rfl, o2⟩
  have d0 : decide (Q < 1) = false := decide_eq_false c0
  by_cases c1 : 100 < Q
  · have d1 : decide (100 < Q) = true := decide_eq_true c1
    clear h c0 c1
    go_enter Try.func3, Try.ntmps3
    go_wp2_with (go_at_call 9; refine (known_any _).mono ?_; rintro e w2 ⟨rfl, o2⟩)
    go_ret
    exact ⟨rfl, o2⟩
  have d1 : decide (100 < Q) = false := decide_eq_false c1
  by_cases c2 : T < 1
  · have d2 : decide (T < 1) = true := decide_eq_true c2
    clear h c0 c1 c2
    go_enter Try.func3, Try.ntmps3
    go_wp2_with (go_at_call 9; refine (known_any _).mono ?_; rintro e w2 ⟨rfl, o2⟩)
    go_ret
    exact ⟨rfl, o2⟩
  have d2 : decide (T < 1) = false := decide_eq_false c2
  by_cases c3 : 16 < T
  · have d3 : decide (16 < T) = true := decide_eq_true c3
    clear h c0 c1 c2 c3
    go_enter Try.func3, Try.ntmps3
    go_wp2_with (go_at_call 9; refine (known_any _).mono ?_; rintro e w2 ⟨rfl, o2⟩)
    go_ret
    exact ⟨rfl, o2⟩
  have d3 : decide (16 < T) = false := decide_eq_false c3
  by_cases c4 : P < 1
  · have d4 : decide (P < 1) = true := decide_eq_true c4
    clear h c0 c1 c2 c3 c4
    go_enter Try.func3, Try.ntmps3
    go_wp2_with (go_at_call 9; refine (known_any _).mono ?_; rintro e w2 ⟨rfl, o2⟩)
    go_ret
    exact ⟨rfl, o2⟩
  have d4 : decide (P < 1) = false := decide_eq_false c4
  by_cases c5 : 31 < P
  · have d5 : decide (31 < P) = true := decide_eq_true c5
    clear h c0 c1 c2 c3 c4 c5
    go_enter Try.func3, Try.ntmps3
    go_wp2_with (go_at_call 9; refine (known_any _).mono ?_; rintro e w2 ⟨rfl, o2⟩)
    go_ret
    exact ⟨rfl, o2⟩
  have d5 : decide (31 < P) = false := decide_eq_false c5
  by_cases c6 : N < 0
  · have d6 : decide (N < 0) = true := decide_eq_true c6
    clear h c0 c1 c2 c3 c4 c5 c6
    go_enter Try.func3, Try.ntmps3
    go_wp2_with (go_at_call 9; refine (known_any _).mono ?_; rintro e w2 ⟨rfl, o2⟩)
    go_ret
    exact ⟨rfl, o2⟩
  have d6 : decide (N < 0) = false := decide_eq_false c6
  by_cases c7 : 2000 < N
  · have d7 : decide (2000 < N) = true := decide_eq_true c7
    clear h c0 c1 c2 c3 c4 c5 c6 c7
    go_enter Try.func3, Try.ntmps3
    go_wp2_with (go_at_call 9; refine (known_any _).mono ?_; rintro e w2 ⟨rfl, o2⟩)
    go_ret
    exact ⟨rfl, o2⟩
  have d7 : decide (2000 < N) = false := decide_eq_false c7
  exact absurd ⟨by omega, by omega, by omega, by omega, by omega, by omega, by omega, by omega⟩ h
set_option maxHeartbeats 4000000 in
theorem robin_in (Q T P N : Nat) (q1 : 1 ≤ Q) (q2 : Q ≤ 100) (t1 : 1 ≤ T) (t2 : T ≤ 16) (p1 : 1 ≤ P) (p2 : P ≤ 31) (n2 : N ≤ 2000) (w : World) : Calls Try.prog 3 #[.int .i64 Q, .int .i64 T, .int .i64 P, .int .i64 N] w fun e w' => e = .returned (.bool true) ∧ Only [] w w' := by
  have d0 : decide ((Q : Int) < 1) = false := decide_eq_false (by omega)
  have d1 : decide (100 < (Q : Int)) = false := decide_eq_false (by omega)
  have d2 : decide ((T : Int) < 1) = false := decide_eq_false (by omega)
  have d3 : decide (16 < (T : Int)) = false := decide_eq_false (by omega)
  have d4 : decide ((P : Int) < 1) = false := decide_eq_false (by omega)
  have d5 : decide (31 < (P : Int)) = false := decide_eq_false (by omega)
  have d6 : decide ((N : Int) < 0) = false := decide_eq_false (by omega)
  have d7 : decide (2000 < (N : Int)) = false := decide_eq_false (by omega)
  have NW := hide (tnew_good Q (by omega) (by omega) w)
  unfold ptr at NW
  go_enter Try.func3, Try.ntmps3
  go_wp2_with (go_at_call 10; refine NW.out.mono ?_; rintro e w0 ⟨x, g, he, r0, hx, hg, o0⟩; unfold newE at he; subst he; have hgS : ∀ k ∈ [x, g], w.heap.size ≤ k := (fun k hk => by simp at hk; rcases hk with rfl | rfl <;> assumption))
  have B0 : BS w0 x g Q ⟨fun _ => [], fun _ => false, fun _ => 0⟩ 0 := ⟨0, by decide, by decide, r0⟩
  clear r0
  go_loopw [11] (fun vi wr => ∃ (i : Nat) (s : SS), i ≤ T ∧ vi = .int .i64 i ∧ Adds P Q i s ∧ BS wr x g Q s (9 * i) ∧ Only [] w wr) (fun vi _ => T - (intOf vi).toNat)
  case atStart => exact ⟨0, _, Nat.zero_le _, rfl, Adds.start P Q, by simpa using B0, o0⟩
  case round =>
    clear B0
    obtain ⟨i, s, hi, rfl, hA, hB, hO⟩ := hrel
    by_cases hlt : i < T
    · have j1 : (i : Int) < (T : Int) := by omega
      obtain ⟨hc, hA2⟩ := hA.step p1 p2 (show i < 16 by omega)
      have AD := hide (addB x g Q s _ (9 * i) (9 * i + 9) (by omega) rfl i P true 0 hc rfl wr hB)
      have HA2 := hide hA2
      have HO := hide hO
      clear hA hA2 hB hO hc
      go_wp2_with (go_at_call 11; refine AD.out.mono ?_; rintro e w2 ⟨rfl, hB2, o2⟩)
      go_roundw
      case rel => exact ⟨i + 1, _, by omega, by go_num, HA2.out, BS.eq (by push_cast; omega) hB2, only_in HO.out o2 hgS⟩
      case measure => simp [intOf]; omega
    · obtain rfl : i = T := by omega
      have hRo := hA.robin q2 t1
      have HR := hide hRo
      have HB := hide (show BS wr x g Q s 144 from by obtain ⟨st, a, b, c⟩ := hB; exact ⟨st, a, by omega, c⟩)
      have HO := hide hO
      clear hA hRo hB hO
      go_wp2_with fail
      go_loopw [12, 13, 14] (fun vn _ _ wr => ∃ (n : Nat) (s : SS), n ≤ N ∧ vn = .int .i64 n ∧ Robin i P Q n s ∧ BS wr x g Q s (144 + 18 * n) ∧ Only [] w wr) (fun vn _ _ _ => N - (intOf vn).toNat)
      case atStart => exact ⟨0, s, Nat.zero_le _, rfl, HR.out, by simpa using HB.out, HO.out⟩
      case round =>
        clear HR HB HO
        obtain ⟨n, s2, hn, rfl, hR, hB, hO⟩ := hrel
        by_cases hlt2 : n < N
        · have j1 : (n : Int) < (N : Int) := by omega
          obtain ⟨a1, a2, a3, a4⟩ := hR.tick p1 p2 t1 t2 q1 q2
          have hn' : (144 + 18 * (n : Int) + 9) < 700000 := by omega
          have RU := hide (runsB x g Q s2 (144 + 18 * n) (144 + 18 * n + 9) (by omega) rfl ((n / Q % i : Nat) : Int) (decide_eq_true a1) a2 wr hB)
          have HA4 := hide a4
          have HO := hide hO
          have e1 : (n : Int).tdiv (Q : Int) = ((n / Q : Nat) : Int) := by rw [Int.tdiv_eq_ediv_of_nonneg (Int.natCast_nonneg _)]; simp
          have e2 : ((n / Q : Nat) : Int).tmod (i : Int) = ((n / Q % i : Nat) : Int) := by rw [Int.tmod_eq_emod_of_nonneg (Int.natCast_nonneg _)]; simp
          have e3 : (n : Int).tmod (Q : Int) = ((n % Q : Nat) : Int) := by rw [Int.tmod_eq_emod_of_nonneg (Int.natCast_nonneg _)]; simp
          have z1 : ((Q : Int) == 0) = false := by simp; omega
          have z2 : ((i : Int) == 0) = false := by simp; omega
          have hq1 : n / Q ≤ n := Nat.div_le_self _ _
          have hq2 : n % Q < Q := Nat.mod_lt _ (by omega)
          obtain ⟨k, hk⟩ : ∃ k, n / Q = k := ⟨_, rfl⟩
          obtain ⟨r, hr⟩ : ∃ r, n % Q = r := ⟨_, rfl⟩
          obtain ⟨h, hh⟩ : ∃ h, k % i = h := ⟨_, rfl⟩
          by_cases hl : n % Q = Q - 1
          · have TK := hide (fun W h => tickB x g Q s2 _ (144 + 18 * (n : Int) + 9) (144 + 18 * (n : Int) + 9 + 9) hn' rfl hR.lf ((n / Q % i : Nat) : Int) true (some (n / Q % i)) (a3.trans (if_pos hl)) rfl rfl rfl W h)
            have g1 : (((n % Q : Nat) : Int) == (Q : Int) - 1) = true := by simp; omega
            clear hR hB hO a1 a2 a3 a4 hl
            rw [hk, hh] at RU
            rw [hk] at e1 e2 hq1
            rw [hh] at e2
            rw [hr] at e3 hq2 g1
            (try rw [hk, hh] at TK)
            clear hk hr hh
            go_wp2_with (first
              | (go_at_call 12; refine RU.out.mono ?_; rintro e w2 ⟨rfl, hB2, o2⟩)
              | (go_at_call 13; refine (TK.out _ hB2).mono ?_; rintro e w3 ⟨rfl, hB3, o3⟩))
            go_roundw
            case rel => exact ⟨n + 1, _, by omega, by go_num, HA4.out, BS.eq (by push_cast; omega) hB3, only_in (only_in HO.out o2 hgS) o3 hgS⟩
            case measure => simp [intOf]; omega
          · have TK := hide (fun W h => tickB x g Q s2 _ (144 + 18 * (n : Int) + 9) (144 + 18 * (n : Int) + 9 + 9) hn' rfl hR.lf 0 false none (a3.trans (if_neg hl)) rfl rfl rfl W h)
            have g1 : (((n % Q : Nat) : Int) == (Q : Int) - 1) = false := by simp; omega
            clear hR hB hO a1 a2 a3 a4 hl
            rw [hk, hh] at RU
            rw [hk] at e1 e2 hq1
            rw [hh] at e2
            rw [hr] at e3 hq2 g1
            (try rw [hk, hh] at TK)
            clear hk hr hh
            go_wp2_with (first
              | (go_at_call 12; refine RU.out.mono ?_; rintro e w2 ⟨rfl, hB2, o2⟩)
              | (go_at_call 13; refine (TK.out _ hB2).mono ?_; rintro e w3 ⟨rfl, hB3, o3⟩))
            go_roundw
            case rel => exact ⟨n + 1, _, by omega, by go_num, HA4.out, BS.eq (by push_cast; omega) hB3, only_in (only_in HO.out o2 hgS) o3 hgS⟩
            case measure => simp [intOf]; omega
        · have HO := hide hO
          clear hR hB hO
          go_wp2_with (go_at_call 9; refine (known_any _).mono ?_; rintro e w2 ⟨rfl, o2⟩)
          go_ret
          exact ⟨rfl, HO.out.trans0 o2⟩
theorem robin_walk (Q T P N : Int) (w : World) : Calls Try.prog 3 #[.int .i64 Q, .int .i64 T, .int .i64 P, .int .i64 N] w fun e w' => e = .returned (.bool true) ∧ Only [] w w' := by
  by_cases h : 1 ≤ Q ∧ Q ≤ 100 ∧ 1 ≤ T ∧ T ≤ 16 ∧ 1 ≤ P ∧ P ≤ 31 ∧ 0 ≤ N ∧ N ≤ 2000
  · obtain ⟨h1, h2, h3, h4, h5, h6, h7, h8⟩ := h
    obtain ⟨Q, rfl⟩ : ∃ m : Nat, Q = m := ⟨Q.toNat, by omega⟩
    obtain ⟨T, rfl⟩ : ∃ m : Nat, T = m := ⟨T.toNat, by omega⟩
    obtain ⟨P, rfl⟩ : ∃ m : Nat, P = m := ⟨P.toNat, by omega⟩
    obtain ⟨N, rfl⟩ : ∃ m : Nat, N = m := ⟨N.toNat, by omega⟩
    exact robin_in Q T P N (by omega) (by omega) (by omega) (by omega) (by omega) (by omega) (by omega) w
  · exact robin_out Q T P N h w
end Go.Proofs.Ytnndengdlokmbaa
