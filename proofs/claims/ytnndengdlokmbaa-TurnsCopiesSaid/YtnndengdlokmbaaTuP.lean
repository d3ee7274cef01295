/- Turns: the document's New; the walk of TurnsPlay. Condition: the script's cells lie. -/
import Derived.Test.YtnndengdlokmbaaTu28
namespace Go.Proofs.Ytnndengdlokmbaa
open Go.RowKit
set_option linter.unusedVariables false
set_option linter.all false
set_option maxRecDepth 20000

/-- The document's turns that nobody made. -/
def ZD : Array Value := ([Value.int .i64 0] ++ List.replicate 32 (Value.slice none 0 0) ++ List.replicate 16 (Value.int .i64 0) ++ List.replicate 16 (Value.bool false) ++ List.replicate 16 (Value.int .i64 0)).toArray
theorem infoD : (Try.prog.info? 53).map (fun i => (i.zero, i.size)) = some (some (.agg ZD), 81) := by kernel_rfl
theorem zeroD (W : World) : (zeroValue 53).run Try.prog W = .ok (.agg ZD) W := (zero_of_info infoD).1 W
def s0 : SS := ⟨fun _ => [], fun _ => false, fun _ => 0⟩
theorem DT_new (W : World) (Q : Int) : DT (W.alloc (.cells (ZD.setIfInBounds 0 (.int .i64 Q)) 53)) W.heap.size Q s0 := by
  have hz : ZD.size = 81 := by decide +kernel
  have hp : ∀ t, prioQ (fun _ => []) t = 0 := fun t => prioQ_zero (by simp)
  refine ⟨_, fun _ => none, fun _ => 0, Blk.new W 53 _, ⟨by simp [hz], set_eq (by omega), fun p hp => ?_, fun t ht => ?_, fun t ht => ?_, fun t ht => ?_⟩, fun p hp h => by simp [s0] at h⟩ <;> refine (set_ne (by omega)).trans ?_
  · show ZD[1 + p]? = some (.slice none 0 0)
    rcases Nat.lt_or_ge p 16 with h | h
    · exact lt16 (P := fun p => ZD[1 + p]? = some (.slice none 0 0)) ⟨rfl, rfl, rfl, rfl, rfl, rfl, rfl, rfl, rfl, rfl, rfl, rfl, rfl, rfl, rfl, rfl⟩ p h
    · have := lt16 (P := fun p => ZD[17 + p]? = some (.slice none 0 0)) ⟨rfl, rfl, rfl, rfl, rfl, rfl, rfl, rfl, rfl, rfl, rfl, rfl, rfl, rfl, rfl, rfl⟩ (p - 16) (by omega)
      rw [show 1 + p = 17 + (p - 16) by omega]
      exact this
  · show ZD[33 + t]? = some (.int .i64 (prioQ (fun _ => []) t : Int))
    rw [hp]
    exact lt16 (P := fun t => ZD[33 + t]? = some (.int .i64 0)) ⟨rfl, rfl, rfl, rfl, rfl, rfl, rfl, rfl, rfl, rfl, rfl, rfl, rfl, rfl, rfl, rfl⟩ t ht
  · exact lt16 (P := fun t => ZD[49 + t]? = some (.bool false)) ⟨rfl, rfl, rfl, rfl, rfl, rfl, rfl, rfl, rfl, rfl, rfl, rfl, rfl, rfl, rfl, rfl⟩ t ht
  · exact lt16 (P := fun t => ZD[65 + t]? = some (.int .i64 0)) ⟨rfl, rfl, rfl, rfl, rfl, rfl, rfl, rfl, rfl, rfl, rfl, rfl, rfl, rfl, rfl, rfl⟩ t ht
theorem dnew_bad (Q : Int) (hQ : ¬ (1 ≤ Q ∧ Q ≤ 100)) (w : World) : Calls Try.prog 20 #[.int .i64 Q] w fun e w' => e = .returned (.pointer none) ∧ w = w' := by
  by_cases c1 : Q < 1
  · have d1 : decide (Q < 1) = true := decide_eq_true c1
    clear hQ
    go_enter Try.func20, Try.ntmps20
    go_wp2_with fail
    go_ret
    exact ⟨rfl, rfl⟩
  · have d1 : decide (Q < 1) = false := decide_eq_false c1
    have d2 : decide (100 < Q) = true := decide_eq_true (by omega)
    clear hQ
    go_enter Try.func20, Try.ntmps20
    go_wp2_with fail
    go_ret
    exact ⟨rfl, rfl⟩
theorem dnew_good (Q : Int) (h1 : 1 ≤ Q) (h2 : Q ≤ 100) (w : World) : Calls Try.prog 20 #[.int .i64 Q] w fun e w' => ∃ d, e = .returned (.pointer (some ⟨d, 0, none⟩)) ∧ DT w' d Q s0 ∧ w.heap.size ≤ d ∧ Only [] w w' := by
  have d1 : decide (Q < 1) = false := decide_eq_false (by omega)
  have d2 : decide (100 < Q) = false := decide_eq_false (by omega)
  have hZ := zeroD
  have HN := hide (DT_new w Q)
  go_enter Try.func20, Try.ntmps20
  go_wp2_with fail
  go_ret
  exact ⟨w.heap.size, rfl, HN.out, Nat.le_refl _, (Only.refl [] w).alloc _⟩
set_option maxHeartbeats 2000000 in
theorem play_bad (Q : Int) (A : Option Addr) (n c : Nat) (hQ : ¬ (1 ≤ Q ∧ Q ≤ 100)) (w : World) : Calls Try.prog 6 #[.int .i64 Q, .slice A n c] w fun e w' => e = .returned (.bool true) ∧ Only [] w w' := by
  have NB := hide (tnew_bad Q hQ w)
  have ND := hide (dnew_bad Q hQ w)
  clear hQ
  go_enter Try.func6, Try.ntmps6
  go_wp2_with (first
    | (go_at_call 10; refine NB.out.mono ?_; rintro e w1 ⟨he, hw⟩; obtain rfl := hw.symm; unfold newE at he; subst he)
    | (go_at_call 20; refine ND.out.mono ?_; rintro e w1 ⟨rfl, hw⟩; obtain rfl := hw)
    | (go_at_call 9; refine (known_any _).mono ?_; rintro e w2 ⟨rfl, o2⟩))
  go_ret
  exact ⟨rfl, o2⟩
set_option maxHeartbeats 2000000 in
theorem play_out (Q : Int) (A : Option Addr) (n c : Nat) (q1 : 1 ≤ Q) (q2 : Q ≤ 100) (hn : 200 < n) (w : World) : Calls Try.prog 6 #[.int .i64 Q, .slice A n c] w fun e w' => e = .returned (.bool true) ∧ Only [] w w' := by
  have NW := hide (tnew_good Q q1 q2 w)
  have ND := hide (fun V => dnew_good Q q1 q2 V)
  unfold ptr at NW
  have g3 : decide (200 < (n : Int)) = true := decide_eq_true (by omega)
  clear q1 q2 hn
  go_enter Try.func6, Try.ntmps6
  go_wp2_with (first
    | (go_at_call 10; refine NW.out.mono ?_; rintro e w0 ⟨x, g, he, r0, hx, hg, o0⟩; unfold newE at he; subst he; clear r0)
    | (go_at_call 20; refine (ND.out _).mono ?_; rintro e w1 ⟨d, rfl, d1, hd, o1⟩; clear d1)
    | (go_at_call 9; refine (known_any _).mono ?_; rintro e w2 ⟨rfl, o2⟩))
  go_ret
  exact ⟨rfl, (o0.trans0 o1).trans0 o2⟩
set_option maxHeartbeats 8000000 in
theorem play_in (Q : Int) (A : Option Addr) (n c : Nat) (q1 : 1 ≤ Q) (q2 : Q ≤ 100) (hn : n ≤ 200) (w : World) (hst : StepsAt w A n) : Calls Try.prog 6 #[.int .i64 Q, .slice A n c] w fun e w' => e = .returned (.bool true) ∧ Only [] w w' := by
  have NW := hide (tnew_good Q q1 q2 w)
  have ND := hide (fun V => dnew_good Q q1 q2 V)
  unfold ptr at NW
  have g3 : decide (200 < (n : Int)) = false := decide_eq_false (by omega)
  have HST := hide hst
  clear hst
  go_enter Try.func6, Try.ntmps6
  go_wp2_with (first
    | (go_at_call 10; refine NW.out.mono ?_; rintro e w0 ⟨x, g, he, r0, hx, hg, o0⟩; unfold newE at he; subst he; have hgS : ∀ k ∈ [x, g], w.heap.size ≤ k := (fun k hk => by simp at hk; rcases hk with rfl | rfl <;> assumption))
    | (go_at_call 20; refine (ND.out _).mono ?_; rintro e w1 ⟨d, rfl, d1, hd, o1⟩; have hdS : w.heap.size ≤ d := Nat.le_trans o0.size hd))
  have B0 : BS w1 x g Q s0 0 := BS.only ⟨0, by decide, by decide, r0⟩ o1 (by simp) (by simp)
  have O0 := o0.trans0 o1
  have hgD : ∀ k ∈ [x, g, d], w.heap.size ≤ k := fun k hk => by simp at hk; rcases hk with rfl | rfl | rfl <;> assumption
  clear r0 g3 o0 o1
  go_loopw [8] (fun vi wr => ∃ (i : Nat) (s : SS), i ≤ n ∧ vi = .int .i64 i ∧ LfOk s ∧ BS wr x g Q s (30 * i) ∧ DT wr d Q s ∧ Only [] w wr) (fun vi _ => n - (intOf vi).toNat)
  case atStart => exact ⟨0, s0, Nat.zero_le _, rfl, fun t => ⟨Int.le_refl _, by show (0 : Int) ≤ 1000; decide⟩, by simpa using B0, d1, O0⟩
  case round =>
    clear B0 d1 O0
    obtain ⟨i, s, hi, rfl, hl, hB, hD, hO⟩ := hrel
    by_cases hlt : i < n
    · have j1 : (i : Int) < (n : Int) := by omega
      have j0 : (0 : Int) ≤ (i : Int) := by omega
      obtain ⟨a, kd, t, pp, rb, rfl, k0, k1, k2, k3⟩ := (HST.out.only0 hO) i hlt
      have DO := hide (does_any x g d Q s (30 * i) (by omega) t pp rb wr hB hD kd hl)
      have HL := hide (hl.step q1 q2 kd t pp rb)
      obtain ⟨s', hs'⟩ : ∃ s', stepS Q s kd t pp rb = s' := ⟨_, rfl⟩
      rw [hs'] at DO HL
      have ST := hide (fun V h hd => stands_any x g d Q s' (30 * i + 9) (by omega) V h hd)
      have HO := hide hO
      clear hl hB hD hO hs'
      go_wp2_with (first
        | (go_at_call 22; (with_reducible refine (ST.out _ b2 d2).mono ?_); rintro e w3 ⟨rfl, b3, d3, o3⟩)
        | (go_at_call 21; (with_reducible refine DO.out.mono ?_); rintro e w2 ⟨rfl, b2, d2, o2⟩))
      go_roundw
      case rel => exact ⟨i + 1, s', by omega, by go_num, HL.out, BS.mono (by omega) b3, d3, only_in (only_in HO.out o2 hgD) o3 hgD⟩
      case measure => simp [intOf]; omega
    · obtain rfl : i = n := by omega
      have HO := hide hO
      clear hB hD hO
      go_wp2_with (go_at_call 9; refine (known_any _).mono ?_; rintro e w2 ⟨rfl, o2⟩)
      go_ret
      exact ⟨rfl, HO.out.trans0 o2⟩
theorem play_walk (Q : Int) (A : Option Addr) (n c : Nat) (w : World) (hst : StepsAt w A n) (hn : n ≤ maxLen) : Calls Try.prog 6 #[.int .i64 Q, .slice A n c] w fun e w' => e = .returned (.bool true) ∧ Only [] w w' := by
  by_cases hQ : 1 ≤ Q ∧ Q ≤ 100
  · by_cases h : n ≤ 200
    · exact play_in Q A n c hQ.1 hQ.2 h w hst
    · exact play_out Q A n c hQ.1 hQ.2 (by omega) w
  · exact play_bad Q A n c hQ w
end Go.Proofs.Ytnndengdlokmbaa
