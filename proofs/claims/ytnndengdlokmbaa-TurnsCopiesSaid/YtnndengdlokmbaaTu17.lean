/- Turns: the walk of TurnsFifo. Condition: the slice's ints lie. -/
import Derived.Test.YtnndengdlokmbaaTu16
namespace Go.Proofs.Ytnndengdlokmbaa
open Go.RowKit
set_option linter.unusedVariables false
set_option linter.all false
set_option maxRecDepth 20000

theorem BS.eq {W : World} {x g : Nat} {Q : Int} {s : SS} {B B' : Int} (h : B = B') (k : BS W x g Q s B) : BS W x g Q s B' := h ▸ k
/-- The slice's ints. -/
def IntsAt (w : World) (A : Option Addr) (n : Nat) (p : Nat → Int) : Prop := ∀ k, k < n → ∃ a : Addr, A = some a ∧ w.cell? (a.add k) = some (.int .i64 (p k))
theorem IntsAt.only0 {w w' : World} {A : Option Addr} {n : Nat} {p : Nat → Int} (h : IntsAt w A n p) (o : Only [] w w') : IntsAt w' A n p := fun k hk => by
  obtain ⟨a, h1, h2⟩ := h k hk
  exact ⟨a, h1, o.keep0 h2⟩
set_option maxHeartbeats 2000000 in
theorem fifo_bad (Q K : Int) (A : Option Addr) (n c : Nat) (hQ : ¬ (1 ≤ Q ∧ Q ≤ 100)) (w : World) : Calls Try.prog 4 #[.int .i64 Q, .slice A n c, .int .i64 K] w fun e w' => e = .returned (.bool true) ∧ Only [] w w' := by
  have NB := hide (tnew_bad Q hQ w)
  clear hQ
  go_enter Try.func4, Try.ntmps4
  go_wp2_with (first
    | (go_at_call 10; refine NB.out.mono ?_; rintro e w1 ⟨he, hw⟩; obtain rfl := hw.symm; unfold newE at he; subst he)
    | (go_at_call 9; refine (known_any _).mono ?_; rintro e w2 ⟨rfl, o2⟩))
  go_ret
  exact ⟨rfl, o2⟩
set_option maxHeartbeats 4000000 in
theorem fifo_out (Q K : Int) (A : Option Addr) (n c : Nat) (h1 : 1 ≤ Q) (h2 : Q ≤ 100) (h : ¬ (n ≤ 16 ∧ 0 ≤ K ∧ K ≤ 100)) (w : World) : Calls Try.prog 4 #[.int .i64 Q, .slice A n c, .int .i64 K] w fun e w' => e = .returned (.bool true) ∧ Only [] w w' := by
  have NW := hide (tnew_good Q h1 h2 w)
  unfold ptr at NW
  by_cases c0 : 16 < (n : Int)
  · have d0 : decide (16 < (n : Int)) = true := decide_eq_true c0
    clear h h1 h2 c0
    go_enter Try.func4, Try.ntmps4
    go_wp2_with (first
      | (go_at_call 10; refine NW.out.mono ?_; rintro e w0 ⟨x, g, he, r0, hx, hg, o0⟩; unfold newE at he; subst he; clear r0)
      | (go_at_call 9; refine (known_any _).mono ?_; rintro e w2 ⟨rfl, o2⟩))
    go_ret
    exact ⟨rfl, o0.trans0 o2⟩
  have d0 : decide (16 < (n : Int)) = false := decide_eq_false c0
  by_cases c1 : K < 0
  · have d1 : decide (K < 0) = true := decide_eq_true c1
    clear h h1 h2 c0 c1
    go_enter Try.func4, Try.ntmps4
    go_wp2_with (first
      | (go_at_call 10; refine NW.out.mono ?_; rintro e w0 ⟨x, g, he, r0, hx, hg, o0⟩; unfold newE at he; subst he; clear r0)
      | (go_at_call 9; refine (known_any _).mono ?_; rintro e w2 ⟨rfl, o2⟩))
    go_ret
    exact ⟨rfl, o0.trans0 o2⟩
  have d1 : decide (K < 0) = false := decide_eq_false c1
  by_cases c2 : 100 < K
  · have d2 : decide (100 < K) = true := decide_eq_true c2
    clear h h1 h2 c0 c1 c2
    go_enter Try.func4, Try.ntmps4
    go_wp2_with (first
      | (go_at_call 10; refine NW.out.mono ?_; rintro e w0 ⟨x, g, he, r0, hx, hg, o0⟩; unfold newE at he; subst he; clear r0)
      | (go_at_call 9; refine (known_any _).mono ?_; rintro e w2 ⟨rfl, o2⟩))
    go_ret
    exact ⟨rfl, o0.trans0 o2⟩
  have d2 : decide (100 < K) = false := decide_eq_false c2
  exact absurd ⟨by omega, by omega, by omega⟩ h
set_option maxHeartbeats 4000000 in
theorem fifo_in (Q : Int) (K : Nat) (A : Option Addr) (n c : Nat) (p : Nat → Int) (q1 : 1 ≤ Q) (q2 : Q ≤ 100) (n2 : n ≤ 16) (k2 : K ≤ 100) (w : World) (hst : IntsAt w A n p) : Calls Try.prog 4 #[.int .i64 Q, .slice A n c, .int .i64 K] w fun e w' => e = .returned (.bool true) ∧ Only [] w w' := by
  have d0 : decide (16 < (n : Int)) = false := decide_eq_false (by omega)
  have d1 : decide ((K : Int) < 0) = false := decide_eq_false (by omega)
  have d2 : decide (100 < (K : Int)) = false := decide_eq_false (by omega)
  have NW := hide (tnew_good Q q1 q2 w)
  unfold ptr at NW
  have HST := hide hst
  clear hst
  go_enter Try.func4, Try.ntmps4
  go_wp2_with (go_at_call 10; refine NW.out.mono ?_; rintro e w0 ⟨x, g, he, r0, hx, hg, o0⟩; unfold newE at he; subst he; have hgS : ∀ k ∈ [x, g], w.heap.size ≤ k := (fun k hk => by simp at hk; rcases hk with rfl | rfl <;> assumption))
  have B0 : BS w0 x g Q ⟨fun _ => [], fun _ => false, fun _ => 0⟩ 0 := ⟨0, by decide, by decide, r0⟩
  clear r0
  go_loopw [9, 10, 11, 12, 13, 14, 15, 16] (fun vi _ _ _ _ _ _ _ wr => ∃ (i : Nat) (s : SS), i ≤ n ∧ vi = .int .i64 i ∧ Fifo p i s ∧ BS wr x g Q s (1000 * i) ∧ Only [] w wr) (fun vi _ _ _ _ _ _ _ _ => n - (intOf vi).toNat)
  case atStart => exact ⟨0, _, Nat.zero_le _, rfl, Fifo.start p, by simpa using B0, o0⟩
  case round =>
    clear B0 d0 d1 d2
    obtain ⟨i, s, hi, rfl, hA, hB, hO⟩ := hrel
    by_cases hlt : i < n
    · have j1 : (i : Int) < (n : Int) := by omega
      have hs2 := hA.step Q q1 q2 (show i < 16 by omega)
      obtain ⟨a, rfl, hcell⟩ := (HST.out.only0 hO) i hlt
      have AD := hide (addB x g Q s _ (1000 * i) (1000 * i + 9) (by omega) rfl i (p i) false _ rfl rfl wr hB)
      obtain ⟨c0, hc0⟩ : ∃ c0, addC s i (p i) = c0 := ⟨_, rfl⟩
      obtain ⟨s2, hss2⟩ : ∃ s2, sAdd Q s i (p i) false = s2 := ⟨_, rfl⟩
      rw [hc0, hss2] at AD
      rw [hss2] at hs2
      obtain ⟨b, hb⟩ : ∃ b, decide (allQ s2.q ≠ []) = b := ⟨_, rfl⟩
      obtain ⟨f, hf⟩ : ∃ f, firstT s2.q = f := ⟨_, rfl⟩
      obtain ⟨t1, t2⟩ := hs2.tick Q
      have W1 := hide (fun W h => whoB x g Q s2 (1000 * i + 9) (1000 * i + 18) (by omega) (by omega) f b hb hf W h)
      have W2 := hide (fun W h => whoB x g Q s2 (1000 * i + 18 + 9 * K) (1000 * i + 27 + 9 * K) (by omega) (by omega) f b hb hf W h)
      have TK := hide (fun (k : Nat) (hk : k ≤ K) W h => tickB x g Q s2 s2 (1000 * i + 18 + 9 * k) (1000 * i + 18 + 9 * (k + 1)) (by omega) (by omega) (fun t _ => hs2.lf t) 0 false none t1 rfl rfl t2 W h)
      have HS2 := hide hs2
      have HO := hide hO
      clear hA hs2 hB hO hc0 hss2 hb hf t1 t2
      go_wp2_with (first
        | (go_at_call 11; refine AD.out.mono ?_; rintro e w2 ⟨rfl, hB2, o2⟩)
        | (go_at_call 14; refine (W1.out _ hB2).mono ?_; rintro e w3 ⟨rfl, hB3, o3⟩))
      have HOO := hide (only_in (only_in HO.out o2 hgS) o3 hgS)
      clear hB2
      go_loopw [12, 13, 14] (fun vk _ _ wr => ∃ (k : Nat), k ≤ K ∧ vk = .int .i64 k ∧ BS wr x g Q s2 (1000 * i + 18 + 9 * k) ∧ Only [] w wr) (fun vk _ _ _ => K - (intOf vk).toNat)
      case atStart => exact ⟨0, Nat.zero_le _, rfl, by simpa using hB3, HOO.out⟩
      case round =>
        clear hB3
        obtain ⟨k, hk, rfl, hB, hO⟩ := hrel
        by_cases hlt2 : k < K
        · have j2 : (k : Int) < (K : Int) := by omega
          go_wp2_with (first
            | (go_at_call 13; refine (TK.out k hk _ hB).mono ?_; rintro e w4 ⟨rfl, hB4, o4⟩))
          go_roundw
          case rel => exact ⟨k + 1, by omega, by go_num, BS.eq (by push_cast; omega) hB4, only_in hO o4 hgS⟩
          case measure => simp [intOf]; omega
        · obtain rfl : k = K := by omega
          clear TK
          go_wp2_with (first
            | (go_at_call 14; refine (W2.out _ hB).mono ?_; rintro e w5 ⟨rfl, hB5, o5⟩))
          go_roundw
          case rel => exact ⟨i + 1, s2, by omega, by go_num, HS2.out, BS.mono (by push_cast; omega) hB5, only_in hO o5 hgS⟩
          case measure => simp [intOf]; omega
    · obtain rfl : i = n := by omega
      have HF := hide hA
      have HB := hide hB
      have HO := hide hO
      clear hA hB hO
      go_wp2_with fail
      go_loopw [17, 18] (fun vb vt wr => ∃ (t : Nat) (b : Int), t ≤ i ∧ vt = .int .i64 t ∧ vb = .int .i64 b ∧ Best p t b ∧ BS wr x g Q s (1000 * i) ∧ Only [] w wr) (fun _ vt _ => i - (intOf vt).toNat)
      case atStart => exact ⟨0, -1, Nat.zero_le _, rfl, rfl, .inl ⟨rfl, fun u hu => by omega⟩, HB.out, HO.out⟩
      case round =>
        clear HB HO
        obtain ⟨t, b, ht, rfl, rfl, hbest, hB, hO⟩ := hrel
        by_cases hlt2 : t < i
        · have j1 : (t : Int) < (i : Int) := by omega
          obtain ⟨a, rfl, hcell⟩ := (HST.out.only0 hO) t hlt2
          by_cases hm : mayT t (p t)
          · have MA := hide (fun W => refMay_any t (p t) true (decide_eq_true hm) W)
            by_cases hb0 : b < 0
            · have g0 : decide (b < 0) = true := decide_eq_true hb0
              obtain rfl : b = -1 := by
                rcases hbest with ⟨h, -⟩ | ⟨u, h, -⟩
                · exact h
                · omega
              have HN := hide (hbest.none_ hm)
              clear hbest hm
              go_wp2_with (go_quiet ((go_at_call 15; exact quiet_left (MA.out _))))
              go_roundw
              case rel => exact ⟨t + 1, t, by omega, by go_num, rfl, HN.out, hB, hO.drewN _⟩
              case measure => simp [intOf]; omega
            · have g0 : decide (b < 0) = false := decide_eq_false hb0
              obtain ⟨u, rfl, hu⟩ : ∃ u : Nat, b = u ∧ u < t := by
                rcases hbest with ⟨h, -⟩ | ⟨u, h, h', -⟩
                · omega
                · exact ⟨u, h, h'⟩
              obtain ⟨a', ha', hcell'⟩ := (HST.out.only0 hO) u (by omega)
              cases ha'
              by_cases hg : p u < p t
              · have g1 : decide (p u < p t) = true := decide_eq_true hg
                have HN := hide (hbest.more hm hg)
                clear hbest hm hg hb0
                go_wp2_with (go_quiet ((go_at_call 15; exact quiet_left (MA.out _))))
                go_roundw
                case rel => exact ⟨t + 1, t, by omega, by go_num, rfl, HN.out, hB, hO.drewN _⟩
                case measure => simp [intOf]; omega
              · have g1 : decide (p u < p t) = false := decide_eq_false hg
                have HN := hide (hbest.less hg)
                clear hbest hm hg hb0
                go_wp2_with (go_quiet ((go_at_call 15; exact quiet_left (MA.out _))))
                go_roundw
                case rel => exact ⟨t + 1, u, by omega, by go_num, rfl, HN.out, hB, hO.drewN _⟩
                case measure => simp [intOf]; omega
          · have MA := hide (fun W => refMay_any t (p t) false (decide_eq_false hm) W)
            have HN := hide (hbest.not_ hm)
            clear hbest hm
            go_wp2_with (go_quiet ((go_at_call 15; exact quiet_left (MA.out _))))
            go_roundw
            case rel => exact ⟨t + 1, b, by omega, by go_num, rfl, HN.out, hB, hO.drewN _⟩
            case measure => simp [intOf]; omega
        · obtain rfl : t = i := by omega
          rcases hbest.first HF.out n2 with ⟨rfl, hall⟩ | ⟨u, rfl, hu, hne, hft⟩
          · have W1 := hide (fun W h => whoB x g Q s (1000 * t) (1000 * t + 9) (by omega) (by omega) 0 false (decide_eq_false (by simp [hall])) (by unfold firstT; rw [hall]) W h)
            have HO := hide hO
            clear hbest hall hO
            go_wp2_with (first
              | (go_at_call 14; refine (W1.out _ hB).mono ?_; rintro e w2 ⟨rfl, hB2, o2⟩)
              | (go_at_call 9; refine (known_any _).mono ?_; rintro e w3 ⟨rfl, o3⟩))
            go_ret
            exact ⟨rfl, (only_in HO.out o2 hgS).trans0 o3⟩
          · have W1 := hide (fun W h => whoB x g Q s (1000 * t) (1000 * t + 9) (by omega) (by omega) u true (decide_eq_true hne) hft W h)
            have HO := hide hO
            have g0 : decide (0 ≤ (u : Int)) = true := decide_eq_true (by omega)
            clear hbest hne hft hO
            go_wp2_with (first
              | (go_at_call 14; refine (W1.out _ hB).mono ?_; rintro e w2 ⟨rfl, hB2, o2⟩)
              | (go_at_call 9; refine (known_any _).mono ?_; rintro e w3 ⟨rfl, o3⟩))
            go_ret
            exact ⟨rfl, (only_in HO.out o2 hgS).trans0 o3⟩
theorem fifo_walk (Q K : Int) (A : Option Addr) (n c : Nat) (p : Nat → Int) (w : World) (hst : IntsAt w A n p) : Calls Try.prog 4 #[.int .i64 Q, .slice A n c, .int .i64 K] w fun e w' => e = .returned (.bool true) ∧ Only [] w w' := by
  by_cases hQ : 1 ≤ Q ∧ Q ≤ 100
  · by_cases h : n ≤ 16 ∧ 0 ≤ K ∧ K ≤ 100
    · obtain ⟨h1, h2, h3⟩ := h
      obtain ⟨K, rfl⟩ : ∃ m : Nat, K = m := ⟨K.toNat, by omega⟩
      exact fifo_in Q K A n c p hQ.1 hQ.2 h1 (by omega) w hst
    · exact fifo_out Q K A n c hQ.1 hQ.2 h w
  · exact fifo_bad Q K A n c hQ w
end Go.Proofs.Ytnndengdlokmbaa
