/- Script: the walks of numbers, head. Condition: Env. -/
import Derived.Test.YteblhklclcjonaaGreatDoorSe2
import Derived.Test.YteblhklclcjonaaGreatDoorCdQ
import Derived.BigRegion
namespace Go.Proofs.YteblhklclcjonaaGreatDoor
open Go.RowKit
set_option linter.unusedVariables false
set_option linter.all false
set_option maxRecDepth 20000

def ptrs6 (g : Nat) : Array Value := #[.pointer (some ⟨g, 0, none⟩), .pointer (some ⟨g, 1, none⟩), .pointer (some ⟨g, 2, none⟩), .pointer (some ⟨g, 3, none⟩), .pointer (some ⟨g, 4, none⟩), .pointer (some ⟨g, 5, none⟩)]
theorem ptrs6_get (g : Nat) : ∀ q, q < 6 → (ptrs6 g)[q]? = some (.pointer (some ⟨g, q, none⟩)) := by
  intro q hq
  have : q = 0 ∨ q = 1 ∨ q = 2 ∨ q = 3 ∨ q = 4 ∨ q = 5 := by omega
  rcases this with rfl | rfl | rfl | rfl | rfl | rfl <;> rfl
/-- A job's cells. -/
def job8 (v : Nat → Int) (p t : Value) : Array Value := #[.int .i64 (v 0), .int .i64 (v 1), .int .i64 (v 2), .int .i64 (v 3), .int .i64 (v 4), .int .i64 (v 5), p, t]
theorem job8_get (v : Nat → Int) (p t : Value) : ∀ q, q < 6 → (job8 v p t)[q]? = some (.int .i64 (v q)) := by
  intro q hq
  have : q = 0 ∨ q = 1 ∨ q = 2 ∨ q = 3 ∨ q = 4 ∨ q = 5 := by omega
  rcases this with rfl | rfl | rfl | rfl | rfl | rfl <;> rfl
set_option maxHeartbeats 1000000 in
theorem numbers_any (g : Nat) (w : World) : Calls Tryz.prog 69 #[.pointer (some ⟨g, 0, none⟩)] w fun e w' => e = .returned (.slice (some ⟨w.heap.size, 0, none⟩) 6 6) ∧ Blk w' w.heap.size 122 (ptrs6 g) ∧ Only [] w w' := by
  go_enter Tryz.func69, Tryz.ntmps69
  go_wp2_with fail
  go_region
  go_wp2_with fail
  go_ret
  exact ⟨rfl, Blk.new w 122 (ptrs6 g), ((Only.refl [] w).alloc _).drew⟩
set_option maxHeartbeats 4000000 in
theorem head_any (v : Nat → Int) (hv : ∀ q, q < 6 → -9223372036854775808 ≤ v q ∧ v q ≤ 9223372036854775807) (p t : Value) (w : World) (he : Env w) : Calls Tryz.prog 44 #[.agg (job8 v p t)] w fun e w' => e = .returned (.string (bs (headB v))) ∧ Only [] w w' := by
  obtain ⟨X, hX⟩ : ∃ X, w.heap.size = X := ⟨_, rfl⟩
  have B0 := hide (Blk.new w 52 (job8 v p t))
  rw [hX] at B0
  have O0 := hide ((Only.refl [] w).alloc (.cells (job8 v p t) 52))
  have NU := hide (numbers_any X)
  have HE := hide he
  have HV := hide hv
  have hlen : ∀ q, (headN v q).length ≤ 3 + 23 * q := by
    intro q
    induction q with
    | zero => exact Nat.le_refl _
    | succ q ih =>
      have := pl_itoaF (v q)
      unfold headN
      simp only [List.length_append, List.length_cons]
      omega
  have HLEN := hide hlen
  have R := hide (show headB v = headN v 6 from rfl)
  rw [R.out]
  clear he hv hlen
  unfold job8 at O0
  go_enter Tryz.func44, Tryz.ntmps44
  unfold job8
  go_wp2_with (go_at_call 69; (with_reducible refine (NU.out _).mono ?_); rintro e w1 ⟨rfl, b1, o1⟩; rw [World.size_alloc, hX] at b1; have BP := hide b1; have BJ := hide (B0.out.only o1 (by simp)); have O1 := hide (O0.out.trans0 o1); clear b1 o1)
  clear NU
  go_loopw [3, 8] (fun vs vi wr => ∃ q : Nat, q ≤ 6 ∧ vi = .int .i64 q ∧ vs = .string (bs (headN v q)) ∧ Hid (Only [] w1 wr)) (fun _ vi _ => 6 - (intOf vi).toNat)
  case atStart => exact ⟨0, by omega, rfl, rfl, hide (Only.refl _ _)⟩
  case round =>
    obtain ⟨q, hq, rfl, rfl, hO⟩ := hrel
    by_cases hq6 : q < 6
    · have c0 : wr.cell? ⟨X + 1, q, none⟩ = some (.pointer (some ⟨X, q, none⟩)) := hO.out.keep0 ((BP.out.cell q).trans (ptrs6_get X q hq6))
      have c1 : wr.cell? ⟨X, q, none⟩ = some (.int .i64 (v q)) := hO.out.keep0 ((BJ.out.cell q).trans (job8_get v p t q hq6))
      have j0 : (0 : Int) ≤ (q : Int) := by omega
      have j1 : (q : Int) < 6 := by omega
      have j2 : q < 6 := hq6
      have hvq := HV.out q hq6
      have IT := fun W (o : Only [] w W) => itoaE_any (v q) hvq.1 hvq.2 W (HE.out.only o)
      have h1 := HLEN.out q
      have h2 := pl_itoaF (v q)
      have e1 : (⟨#[32]⟩ : ByteArray) ++ bs (itoaF (v q)) = bs (32 :: itoaF (v q)) := bs_cat [32] _
      have e2 : bs (headN v q) ++ bs (32 :: itoaF (v q)) = bs (headN v (q + 1)) := bs_cat _ _
      have z1 : ¬ 9223372036854775807 < 1 + (bs (itoaF (v q))).size := by rw [bs_size]; omega
      have z2 : ¬ 9223372036854775807 < (bs (headN v q)).size + (bs (32 :: itoaF (v q))).size := by rw [bs_size, bs_size, List.length_cons]; omega
      have z3 : ¬ 9223372036854775807 < (⟨#[32]⟩ : ByteArray).size + (bs (itoaF (v q))).size := by rw [bs_size]; show ¬ 9223372036854775807 < 1 + _; omega
      obtain ⟨S1, hS1⟩ : ∃ S, bs (itoaF (v q)) = S := ⟨_, rfl⟩
      obtain ⟨S2, hS2⟩ : ∃ S, bs (32 :: itoaF (v q)) = S := ⟨_, rfl⟩
      obtain ⟨S3, hS3⟩ : ∃ S, bs (headN v q) = S := ⟨_, rfl⟩
      obtain ⟨S4, hS4⟩ : ∃ S, bs (headN v (q + 1)) = S := ⟨_, rfl⟩
      rw [hS1] at IT e1 z1 z3
      rw [hS2] at e1 e2 z2
      rw [hS3] at e2 z2
      rw [hS4] at e2
      rw [hS3]
      have HS4 := hide hS4
      have IT := hide IT
      have OO := hide (O1.out.trans0 hO.out)
      clear hvq h1 h2 hS1 hS2 hS3 hS4
      go_wp2_with (go_at_call 31; (with_reducible refine (IT.out _ OO.out).mono ?_); rintro e w3 ⟨rfl, o3⟩; have O3 := hide (hO.out.trans0 o3); clear o3)
      go_roundw
      case rel => exact ⟨q + 1, by omega, by go_num, by rw [HS4.out], O3⟩
      case measure => simp [intOf]; omega
    · obtain rfl : q = 6 := by omega
      go_wp2_with fail
      go_ret
      exact ⟨rfl, O1.out.trans0 hO.out⟩
end Go.Proofs.YteblhklclcjonaaGreatDoor
