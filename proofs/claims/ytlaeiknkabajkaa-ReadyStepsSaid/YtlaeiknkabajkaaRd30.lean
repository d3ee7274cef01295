/- Ready lists: the walk of ReadySteps. Condition: the script's cells lie. -/
import Derived.Test.YtlaeiknkabajkaaRd29
namespace Go.Proofs.Ytlaeiknkabajkaa
open Go.RowKit Go.Shelf
set_option linter.unusedVariables false
set_option linter.all false
set_option maxRecDepth 20000

/-- How the law's loop stands. -/
def Stands3 (w : World) (d n : Nat) (vr vi : Value) (wr : World) : Prop :=
  ∃ (k g : Nat) (q : Nat → List Nat) (st : Int), vr = .pointer (some ⟨g, 0, none⟩) ∧ vi = .int .i64 k ∧ k ≤ n ∧ k ≤ 200 ∧ 0 ≤ st ∧ st ≤ 30 * k ∧ RL wr g q st ∧ DQ wr d q ∧ Only [] w wr ∧ w.heap.size ≤ g
set_option maxHeartbeats 4000000 in
theorem steps_walk (A : Option Addr) (n c : Nat) (leave : Int) (w : World) (h0 : -9223372036854775808 ≤ leave) (h1 : leave ≤ 9223372036854775807) (hA : StepsAt w A n) (hn : n ≤ maxLen) : Calls Try.prog 4 #[.slice A n c, .int .i64 leave] w fun e w' => e = .returned (.bool true) ∧ Only [] w w' := by
  have HA := hide hA
  clear hA
  have hZ := zero29
  unfold maxLen at hn
  go_enter Try.func4, Try.ntmps4
  go_wp2_with (first
    | (go_at_call 6; refine (new_any _).mono ?_; rintro e w2 ⟨rfl, R2, o2⟩; unfold ptr))
  have D3 := DQ_new w2
  have R3 : RL (w2.alloc (.cells Z29 29)) w.heap.size (fun _ => []) 0 := R2.only ((Only.refl [] w2).alloc _) (by simp)
  have O3 : Only [] w (w2.alloc (.cells Z29 29)) := o2.alloc _
  obtain ⟨d, hd⟩ : ∃ d, w2.heap.size = d := ⟨_, rfl⟩
  have hs2 := o2.size
  obtain ⟨g0, hg0⟩ : ∃ g0, w.heap.size = g0 := ⟨_, rfl⟩
  rw [hd] at D3
  rw [hg0] at R3
  rw [hd, hg0]
  have hdw : w.heap.size ≤ d := by omega
  have hgw : w.heap.size ≤ g0 := by omega
  clear hZ R2 o2 hs2 hd hg0
  go_loopw [5, 6, 7, 8] (fun vr vq vi _ wr => vq = .pointer (some ⟨d, 0, none⟩) ∧ Stands3 w d n vr vi wr) (fun _ _ vi _ _ => n - (intOf vi).toNat)
  case atStart => exact ⟨rfl, 0, g0, _, 0, rfl, rfl, Nat.zero_le _, Nat.zero_le _, by decide, by decide, R3, D3, O3, hgw⟩
  case round =>
    obtain ⟨rfl, k, g, q, st, rfl, rfl, hk, hk2, h0, hst, hR, hD, hO, hgg⟩ := hrel
    have HK := hide hk2
    have H0 := hide h0
    have HS := hide hst
    have HR := hide hR
    have HD := hide hD
    have HO := hide hO
    clear hk2 h0 hst hR hD hO R3 D3 O3
    by_cases hgo : k < n ∧ k < 200
    · obtain ⟨a, kd, p, t, rfl, e0, e1, e2⟩ := HA.out k hgo.1
      have c0 := HO.out.keep0 e0
      have c1 := HO.out.keep0 e1
      have c2 := HO.out.keep0 e2
      have j1 : (k : Int) < (n : Int) := by omega
      have j2 : (k : Int) < 200 := by omega
      have j0 : (0 : Int) ≤ (k : Int) := by omega
      have DO := hide (do_any g d q kd p t st (by have := H0.out; have := HS.out; omega) wr HR.out HD.out)
      unfold ptr at DO
      have hk1 := hgo.1
      have hk2 := hgo.2
      clear hgo e0 e1 e2
      go_wp2_with (first
        | (go_at_call 7; refine DO.out.mono ?_; rintro e w3 ⟨g', st', rfl, s1, s2, R', D', O', hg'⟩; have HS1 := hide s1; have HS2 := hide s2; have SA := stands_any g' d _ st' leave (by have := H0.out; have := HS.out; omega) w3 R' D'; unfold ptr at SA; have SA' := hide SA; clear s1 s2 SA)
        | (go_at_call 11; refine SA'.out.mono ?_; rintro e w4 ⟨rfl, ⟨st4, s3, s4, R4⟩, D4, O4⟩; have HS3 := hide s3; have HS4 := hide s4; clear s3 s4))
      go_roundw
      case rel =>
        have hg'w : w.heap.size ≤ g' := by
          have := HO.out.size
          rcases hg' with rfl | h
          · exact hgg
          · omega
        refine ⟨rfl, k + 1, g', _, st4, rfl, by go_num, by omega, by omega, ?_, ?_, R4, D4, ?_, hg'w⟩
        · have := H0.out; have := HS1.out; have := HS3.out; omega
        · have := HS.out; have := HS2.out; have := HS4.out; push_cast; omega
        · exact (HO.out.trans O' (fun x hx => .inr (by simp at hx; rcases hx with rfl | rfl <;> assumption))).trans O4 (fun x hx => .inr (by simp at hx; omega))
      case measure => simp [intOf]; omega
    · rcases (show ((k : Int) < (n : Int) ∧ ¬ ((k : Int) < 200)) ∨ ¬ ((k : Int) < (n : Int)) from by omega) with ⟨hA1, hA2⟩ | hA1
      all_goals (
        clear hgo
        go_wp2_with (go_at_call 10; refine (known_any _).mono ?_; rintro e w5 ⟨rfl, o5⟩)
        go_ret
        exact ⟨rfl, HO.out.trans0 o5⟩)
end Go.Proofs.Ytlaeiknkabajkaa
