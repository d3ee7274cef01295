/- Ready lists: the walk of Remove. Condition: the list lies. -/
import Derived.Test.YtnndengdlokmbaaRd7
namespace Go.Proofs.Ytnndengdlokmbaa
open Go.RowKit
set_option linter.unusedVariables false
set_option linter.all false
set_option maxRecDepth 20000

set_option maxHeartbeats 2000000 in
theorem remove_good (g p t : Nat) (h1 : 1 ≤ p) (h2 : p ≤ 31) (ht : t < 16) (s : RS) (prio : Nat → Int) (bits : Nat) (hbits : bits < 4294967296) (st : Int) (hst : 0 ≤ st ∧ st < 1000000) (w : World) (h : RB w g s prio bits st) (h0 : prio t = (p : Int)) (ha : link? (s.prev t)) (hb : link? (s.next t)) :
    Calls Try.prog 53 #[ptr g, .int .i64 t] w fun e w' => e = .returned (.int .i64 0) ∧ RB w' g (s.del p t) (upd prio t 0) (if (s.del p t).head p = -1 then bits &&& (4294967295 - 1 <<< p) else bits) (st + 2) ∧ Only [g] w w' := by
  have hR := h
  obtain ⟨cs, hB, hC⟩ := h
  have q1 : (0 : Int) ≤ (t : Int) := by omega
  have q2 : (t : Int) < 16 := by omega
  have q3 : (0 : Int) ≤ (p : Int) := by omega
  have q4 : (p : Int) < 32 := by omega
  have gp : ((p : Int) == 0) = false := by simp; omega
  have k0 : w.cell? ⟨g, 0, none⟩ = some (.bool true) := (hB.cell 0).trans hC.made
  have kp : w.cell? ⟨g, 98 + t, none⟩ = some (.int .i64 p) := by rw [hB.cell, hC.pr t ht, h0]
  have ka : w.cell? ⟨g, 82 + t, none⟩ = some (.int .i64 (s.prev t)) := by rw [hB.cell, hC.prev t ht]
  have kb : w.cell? ⟨g, 66 + t, none⟩ = some (.int .i64 (s.next t)) := by rw [hB.cell, hC.next t ht]
  have TH := hide (there_any g true w k0)
  have TT := hide (thread_any t w)
  have d1 : (decide ((0 : Int) ≤ (t : Int)) && decide ((t : Int) < 16)) = true := by simp; omega
  have J1 := hide (fun W => join_any g p (s.prev t) (s.next t) (by omega) ha hb s prio bits st (by omega) W)
  have HR := hide hR
  clear hR
  unfold ptr at TH J1 ⊢
  go_enter Try.func53, Try.ntmps53
  go_wp2_with (first
    | (go_at_call 62; refine TH.out.mono ?_; rintro e w' ⟨rfl, hw⟩; obtain rfl := hw.symm; clear hw)
    | (go_at_call 68; refine TT.out.mono ?_; rw [d1]; rintro e w' ⟨rfl, hw⟩; obtain rfl := hw.symm; clear hw))
  go_region_with (first
    | (go_at_call 69; refine (J1.out _ (HR.out.only (Only.drew (Only.refl [] _)) (by simp))).mono ?_; rintro e w2 ⟨rfl, R2, o2⟩))
  all_goals (
    obtain ⟨cs2, hB2, hC2⟩ := R2
    have f1 := hB2.frozen (98 + t)
    have c1 : w2.cell? ⟨g, 98 + t, none⟩ = some (.int .i64 p) := by rw [hB2.cell, hC2.pr t ht, h0]
    have hB3 := hB2.set_ (98 + t) (.int .i64 0)
    have hC3 := hC2.setPrio t ht 0
    have c2 := (hB3.cell (2 + p)).trans (hC3.head p (by omega))
    have c3 := (hB3.cell 1).trans hC3.some_
    have f3 := hB3.frozen 1
    have hdel : s.join p (s.prev t) (s.next t) = s.del p t := rfl
    rw [hdel] at hC3 c2
    have O3 := hide ((wide_only (S := [g]) (Only.drew (Only.refl [] w))).trans o2 (fun x hx => .inl hx))
    clear hdel
    by_cases hh : (s.del p t).head p = -1
    · rw [hh] at c2
      have HH := hide hh
      clear hh
      go_wp2_with fail
      go_region
      have hbit : Go.bits .andNot .u32 (bits : Int) ((2 : Int) ^ p % 4294967296) = ((bits &&& (4294967295 - 1 <<< p) : Nat) : Int) := by
        have h2' : (2 : Nat) ^ p < 4294967296 := Nat.lt_of_le_of_lt (Nat.pow_le_pow_right (by omega) h2) (by decide)
        rw [show (2 : Int) ^ p = ((2 ^ p : Nat) : Int) from (Int.natCast_pow 2 p).symm, Int.emod_eq_of_lt (Int.natCast_nonneg _) (by omega), u32_andNot_nat bits (2 ^ p) hbits h2', Nat.one_shiftLeft]
      have hB4 := (hB3.set_ 1 (.int .u32 (Go.bits .andNot .u32 (bits : Int) ((2 : Int) ^ p % 4294967296)))).drew
      have hC4 : Cs ((cs2.setIfInBounds (98 + t) (.int .i64 0)).setIfInBounds 1 (.int .u32 (Go.bits .andNot .u32 (bits : Int) ((2 : Int) ^ p % 4294967296)))) (s.del p t) (upd prio t 0) (bits &&& (4294967295 - 1 <<< p)) (st + 2) := by rw [hbit]; exact hC3.setBits _
      have H4 := hide hB4
      have H5 := hide hC4
      clear hB4 hC4 hbit
      go_wp2_with fail
      go_ret
      exact ⟨rfl, (by first | exact ⟨_, H4.out, H5.out⟩ | (rw [if_pos HH.out]; exact ⟨_, H4.out, H5.out⟩)), ((O3.out.setCell (p := ⟨g, 98 + t, none⟩) (.inl (by simp)) _).setCell (p := ⟨g, 1, none⟩) (.inl (by simp)) _).drew⟩
    · have gh : ((s.del p t).head p == -1) = false := by simp [hh]
      have HH := hide hh
      clear hh
      go_wp2_with fail
      go_ret
      exact ⟨rfl, (by first | exact ⟨_, hB3, hC3⟩ | (rw [if_neg HH.out]; exact ⟨_, hB3, hC3⟩)), O3.out.setCell (p := ⟨g, 98 + t, none⟩) (.inl (by simp)) _⟩)
end Go.Proofs.Ytnndengdlokmbaa
